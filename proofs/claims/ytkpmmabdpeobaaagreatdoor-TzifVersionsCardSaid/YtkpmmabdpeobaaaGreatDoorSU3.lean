/- POSIX TZ strings, the plain laws: dates, the day that a date means in a year. No program in sight. The functions posix.day and analemmaref37.day, called with a right date: the day that it means in a year. The function analemmaref37.day, called with a right date: the day that it means in a year; and both functions at any right date. The functions posix.in, posix.date, analemmaref37.in, analemmaref37.off and analemmaref37.date: which dates and offsets are right. -/
import Derived.Test.YtkpmmabdpeobaaaGreatDoorSU2
import Derived.Laws.EntriesVeiled
namespace Go.Proofs.YtkpmmabdpeobaaaGreatDoor.Px
open Go.RowKit
open Civ
structure Dt where
 kind : Int
 day : Int
 month : Int
 week : Int
 sec : Int
 deriving DecidableEq
def Dt.val (d : Dt) : Value := .agg #[.int .i64 d.kind, .int .i64 d.day, .int .i64 d.month, .int .i64 d.week, .int .i64 d.sec]
def Dt.ok (d : Dt) : Bool := decide (-604799 ≤ d.sec) && decide (d.sec ≤ 604799) &&
 ((decide (d.kind = 1) && decide (1 ≤ d.day) && decide (d.day ≤ 365) && decide (d.month = 0) && decide (d.week = 0)) ||
  (decide (d.kind = 2) && decide (0 ≤ d.day) && decide (d.day ≤ 365) && decide (d.month = 0) && decide (d.week = 0)) ||
  (decide (d.kind = 3) && decide (1 ≤ d.month) && decide (d.month ≤ 12) && decide (1 ≤ d.week) && decide (d.week ≤ 5) && decide (0 ≤ d.day) && decide (d.day ≤ 6)))
theorem Dt.ok_iff (d : Dt) : d.ok = true ↔ (-604799 ≤ d.sec ∧ d.sec ≤ 604799) ∧ ((d.kind = 1 ∧ 1 ≤ d.day ∧ d.day ≤ 365 ∧ d.month = 0 ∧ d.week = 0) ∨ (d.kind = 2 ∧ 0 ≤ d.day ∧ d.day ≤ 365 ∧ d.month = 0 ∧ d.week = 0) ∨
 (d.kind = 3 ∧ 1 ≤ d.month ∧ d.month ≤ 12 ∧ 1 ≤ d.week ∧ d.week ≤ 5 ∧ 0 ≤ d.day ∧ d.day ≤ 6)) := by
 unfold Dt.ok
 simp only [Bool.and_eq_true, Bool.or_eq_true, decide_eq_true_eq]
 omega
def dayD (d : Dt) (y : Int) : Int :=
 if d.kind = 1 then (if 59 < d.day ∧ leapB y = true then jan y + d.day else jan y + d.day - 1)
 else if d.kind = 2 then jan y + d.day
 else if d.week = 5 then lastD (dayOf y d.month (mlen y d.month)) d.day
 else fromD (dayOf y d.month (7 * d.week - 6)) d.day
theorem dayD_bd {d : Dt} (h : d.ok = true) (y : Int) : jan y ≤ dayD d y ∧ dayD d y ≤ jan y + 365 := by
 rw [Dt.ok_iff] at h
 obtain ⟨_, h | h | h⟩ := h
 · unfold dayD
   rw [if_pos h.1]
   split <;> omega
 · unfold dayD
   rw [if_neg (by omega), if_pos h.1]
   omega
 · unfold dayD
   rw [if_neg (by omega), if_neg (by omega)]
   obtain ⟨u0, u1, u2, u3⟩ := cum_top y d.month h.2.1 h.2.2.1
   have u4 := size_ge y
   split
   · unfold lastD dayOf wday; omega
   · unfold fromD dayOf wday; omega
theorem dayD_mono {d : Dt} (h : d.ok = true) {y z : Int} (hyz : y < z) : dayD d y ≤ dayD d z := by
 have h1 := (dayD_bd h y).2
 have h2 := (dayD_bd h z).1
 have h3 := jan_lt hyz
 omega
end Go.Proofs.YtkpmmabdpeobaaaGreatDoor.Px
namespace Go.Proofs.YtkpmmabdpeobaaaGreatDoor.Px
open Go.RowKit
open Civ
set_option maxHeartbeats 4000000 in
set_option maxRecDepth 100000 in
theorem day_j (dy y s : Int) (d0 : 1 ≤ dy) (d1 : dy ≤ 365) (h0 : -2000000000 ≤ y) (h1 : y ≤ 2000000000) (w : World) (hB : BeforeAt w) :
 Calls Tryz.prog 152 #[.agg #[.int .i64 1, .int .i64 dy, .int .i64 0, .int .i64 0, .int .i64 s], .int .i64 y] w fun e w' => e = .returned (.int .i64 (if 59 < dy ∧ leapB y = true then jan y + dy else jan y + dy - 1)) ∧ Below w.heap.size w w' := by
 obtain ⟨v0, v1⟩ := jan_bd (y := y) (by omega) (by omega)
 have CD := Lib.hid (days_any y 1 1 h0 h1 (by decide) (by decide) (by decide) (by have := (cum_top y 1 (by decide) (by decide)).2.2.1; omega))
 have hj : dayOf y 1 1 = jan y := by unfold dayOf; rw [show cum y 1 = 0 from rfl]; omega
 rw [hj] at CD
 have CL := Lib.hid (leap_any y)
 have HA := Lib.hid ((Below.refl _ w).alloc (Nat.le_refl _) (.cells #[.int .i64 1, .int .i64 dy, .int .i64 0, .int .i64 0, .int .i64 s] 48))
 have HB := Lib.hid hB
 clear hj hB
 obtain ⟨b, hb⟩ : ∃ b, leapB y = b := ⟨_, rfl⟩
 rw [hb] at CL ⊢
 clear hb
 by_cases h : 59 < dy
 · cases b
   · rw [if_neg (by simp)]
     go_enter Tryz.func152, Tryz.ntmps152
     go_wp2_with fail
     refine (CD.out _ (HB.out.keep HA.out)).mono ?_
     rintro e w' ⟨rfl, n, rfl⟩
     go_wp2_with fail
     refine (CL.out _).mono ?_
     rintro e w' ⟨rfl, rfl⟩
     go_wp2_with fail
     go_ret
     exact ⟨ret1 (by omega), below_drewN HA.out n⟩
   · rw [if_pos ⟨h, rfl⟩]
     go_enter Tryz.func152, Tryz.ntmps152
     go_wp2_with fail
     refine (CD.out _ (HB.out.keep HA.out)).mono ?_
     rintro e w' ⟨rfl, n, rfl⟩
     go_wp2_with fail
     refine (CL.out _).mono ?_
     rintro e w' ⟨rfl, rfl⟩
     go_wp2_with fail
     go_ret
     exact ⟨ret1 (by omega), below_drewN HA.out n⟩
 · rw [if_neg (by omega)]
   go_enter Tryz.func152, Tryz.ntmps152
   go_wp2_with fail
   refine (CD.out _ (HB.out.keep HA.out)).mono ?_
   rintro e w' ⟨rfl, n, rfl⟩
   go_wp2_with fail
   go_ret
   exact ⟨ret1 (by omega), below_drewN HA.out n⟩
set_option maxHeartbeats 4000000 in
set_option maxRecDepth 100000 in
theorem day_z (dy y s : Int) (d0 : 0 ≤ dy) (d1 : dy ≤ 365) (h0 : -2000000000 ≤ y) (h1 : y ≤ 2000000000) (w : World) (hB : BeforeAt w) :
 Calls Tryz.prog 152 #[.agg #[.int .i64 2, .int .i64 dy, .int .i64 0, .int .i64 0, .int .i64 s], .int .i64 y] w fun e w' => e = .returned (.int .i64 (jan y + dy)) ∧ Below w.heap.size w w' := by
 obtain ⟨v0, v1⟩ := jan_bd (y := y) (by omega) (by omega)
 have CD := Lib.hid (days_any y 1 1 h0 h1 (by decide) (by decide) (by decide) (by have := (cum_top y 1 (by decide) (by decide)).2.2.1; omega))
 have hj : dayOf y 1 1 = jan y := by unfold dayOf; rw [show cum y 1 = 0 from rfl]; omega
 rw [hj] at CD
 have HA := Lib.hid ((Below.refl _ w).alloc (Nat.le_refl _) (.cells #[.int .i64 2, .int .i64 dy, .int .i64 0, .int .i64 0, .int .i64 s] 48))
 have HB := Lib.hid hB
 clear hj hB
 go_enter Tryz.func152, Tryz.ntmps152
 go_wp2_with fail
 refine (CD.out _ (HB.out.keep HA.out)).mono ?_
 rintro e w' ⟨rfl, n, rfl⟩
 go_wp2_with fail
 go_ret
 exact ⟨rfl, below_drewN HA.out n⟩
set_option maxHeartbeats 4000000 in
set_option maxRecDepth 100000 in
theorem day_m (dy m k y s : Int) (d0 : 0 ≤ dy) (d1 : dy ≤ 6) (m0 : 1 ≤ m) (m1 : m ≤ 12) (k0 : 1 ≤ k) (k1 : k ≤ 4) (h0 : -2000000000 ≤ y) (h1 : y ≤ 2000000000) (w : World) (hB : BeforeAt w) (hK : KindsAt w) :
 Calls Tryz.prog 152 #[.agg #[.int .i64 3, .int .i64 dy, .int .i64 m, .int .i64 k, .int .i64 s], .int .i64 y] w fun e w' => e = .returned (.int .i64 (fromD (dayOf y m (7 * k - 6)) dy)) ∧ Below w.heap.size w w' := by
 have CD := Lib.hid (days_any y 1 1 h0 h1 (by decide) (by decide) (by decide) (by have := (cum_top y 1 (by decide) (by decide)).2.2.1; omega))
 have CO := Lib.hid (on_from y m dy (7 * k - 6) h0 h1 m0 m1 d0 d1 (by omega) (by omega))
 have HA := Lib.hid ((Below.refl _ w).alloc (Nat.le_refl _) (.cells #[.int .i64 3, .int .i64 dy, .int .i64 m, .int .i64 k, .int .i64 s] 48))
 have HB := Lib.hid hB
 have HK := Lib.hid hK
 have hk5 : (k == 5) = false := by rw [beq_eq_false_iff_ne]; omega
 clear hB hK
 go_enter Tryz.func152, Tryz.ntmps152
 go_wp2_with fail
 refine (CD.out _ (HB.out.keep HA.out)).mono ?_
 rintro e w' ⟨rfl, n, rfl⟩
 go_wp2_with fail
 have HN := Lib.hid (below_drewN (HA.out.alloc (by simp) (.cells #[.int .i64 3, .int .i64 dy, .int .i64 (7 * k - 6)] 180)) n)
 refine (CO.out _ (HB.out.keep HN.out) (HK.out.keep HN.out)).mono ?_
 rintro e V ⟨rfl, hb⟩
 have HV := Lib.hid (HN.out.trans (hb.mono HN.out.size))
 clear hb
 go_wp2_with fail
 go_ret
 exact ⟨rfl, HV.out⟩
set_option maxHeartbeats 4000000 in
set_option maxRecDepth 100000 in
theorem day_l (dy m y s : Int) (d0 : 0 ≤ dy) (d1 : dy ≤ 6) (m0 : 1 ≤ m) (m1 : m ≤ 12) (h0 : -2000000000 ≤ y) (h1 : y ≤ 2000000000) (w : World) (hB : BeforeAt w) (hK : KindsAt w) :
 Calls Tryz.prog 152 #[.agg #[.int .i64 3, .int .i64 dy, .int .i64 m, .int .i64 5, .int .i64 s], .int .i64 y] w fun e w' => e = .returned (.int .i64 (lastD (dayOf y m (mlen y m)) dy)) ∧ Below w.heap.size w w' := by
 have CD := Lib.hid (days_any y 1 1 h0 h1 (by decide) (by decide) (by decide) (by have := (cum_top y 1 (by decide) (by decide)).2.2.1; omega))
 have CO := Lib.hid (on_last y m dy h0 h1 m0 m1 d0 d1)
 have HA := Lib.hid ((Below.refl _ w).alloc (Nat.le_refl _) (.cells #[.int .i64 3, .int .i64 dy, .int .i64 m, .int .i64 5, .int .i64 s] 48))
 have HB := Lib.hid hB
 have HK := Lib.hid hK
 clear hB hK
 go_enter Tryz.func152, Tryz.ntmps152
 go_wp2_with fail
 refine (CD.out _ (HB.out.keep HA.out)).mono ?_
 rintro e w' ⟨rfl, n, rfl⟩
 go_wp2_with fail
 have HN := Lib.hid (below_drewN (HA.out.alloc (by simp) (.cells #[.int .i64 2, .int .i64 dy, .int .i64 0] 180)) n)
 refine (CO.out _ (HB.out.keep HN.out) (HK.out.keep HN.out)).mono ?_
 rintro e V ⟨rfl, hb⟩
 have HV := Lib.hid (HN.out.trans (hb.mono HN.out.size))
 clear hb
 go_wp2_with fail
 go_ret
 exact ⟨rfl, HV.out⟩
end Go.Proofs.YtkpmmabdpeobaaaGreatDoor.Px
namespace Go.Proofs.YtkpmmabdpeobaaaGreatDoor.Px
open Go.RowKit
open Civ
set_option maxHeartbeats 4000000 in
set_option maxRecDepth 100000 in
theorem ref_day_j (dy y s : Int) (d0 : 1 ≤ dy) (d1 : dy ≤ 365) (h0 : -2000000000 ≤ y) (h1 : y ≤ 2000000000) (w : World) :
 Calls Tryz.prog 95 #[.agg #[.int .i64 1, .int .i64 dy, .int .i64 0, .int .i64 0, .int .i64 s], .int .i64 y] w fun e w' => e = .returned (.int .i64 (if 59 < dy ∧ leapB y = true then jan y + dy else jan y + dy - 1)) ∧ Below w.heap.size w w' := by
 obtain ⟨v0, v1⟩ := jan_bd (y := y) (by omega) (by omega)
 have CD := Lib.hid (ref_days y 1 1 h0 h1 (by decide) (by decide) (by decide) (by have := (cum_top y 1 (by decide) (by decide)).2.2.1; omega))
 have hj : dayOf y 1 1 = jan y := by unfold dayOf; rw [show cum y 1 = 0 from rfl]; omega
 rw [hj] at CD
 have CL := Lib.hid (ref_leap y)
 have HA := Lib.hid ((Below.refl _ w).alloc (Nat.le_refl _) (.cells #[.int .i64 1, .int .i64 dy, .int .i64 0, .int .i64 0, .int .i64 s] 48))
 clear hj
 obtain ⟨b, hb⟩ : ∃ b, leapB y = b := ⟨_, rfl⟩
 rw [hb] at CL ⊢
 clear hb
 by_cases h : 59 < dy
 · cases b
   · rw [if_neg (by simp)]
     go_enter Tryz.func95, Tryz.ntmps95
     go_wp2_with fail
     refine (CD.out _).mono ?_
     rintro e w' ⟨rfl, rfl⟩
     go_wp2_with fail
     refine (CL.out _).mono ?_
     rintro e w' ⟨rfl, rfl⟩
     go_wp2_with fail
     go_ret
     exact ⟨ret1 (by omega), HA.out⟩
   · rw [if_pos ⟨h, rfl⟩]
     go_enter Tryz.func95, Tryz.ntmps95
     go_wp2_with fail
     refine (CD.out _).mono ?_
     rintro e w' ⟨rfl, rfl⟩
     go_wp2_with fail
     refine (CL.out _).mono ?_
     rintro e w' ⟨rfl, rfl⟩
     go_wp2_with fail
     go_ret
     exact ⟨ret1 (by omega), HA.out⟩
 · rw [if_neg (by omega)]
   go_enter Tryz.func95, Tryz.ntmps95
   go_wp2_with fail
   refine (CD.out _).mono ?_
   rintro e w' ⟨rfl, rfl⟩
   go_wp2_with fail
   go_ret
   exact ⟨ret1 (by omega), HA.out⟩
set_option maxHeartbeats 4000000 in
set_option maxRecDepth 100000 in
theorem ref_day_z (dy y s : Int) (d0 : 0 ≤ dy) (d1 : dy ≤ 365) (h0 : -2000000000 ≤ y) (h1 : y ≤ 2000000000) (w : World) :
 Calls Tryz.prog 95 #[.agg #[.int .i64 2, .int .i64 dy, .int .i64 0, .int .i64 0, .int .i64 s], .int .i64 y] w fun e w' => e = .returned (.int .i64 (jan y + dy)) ∧ Below w.heap.size w w' := by
 obtain ⟨v0, v1⟩ := jan_bd (y := y) (by omega) (by omega)
 have CD := Lib.hid (ref_days y 1 1 h0 h1 (by decide) (by decide) (by decide) (by have := (cum_top y 1 (by decide) (by decide)).2.2.1; omega))
 have hj : dayOf y 1 1 = jan y := by unfold dayOf; rw [show cum y 1 = 0 from rfl]; omega
 rw [hj] at CD
 have HA := Lib.hid ((Below.refl _ w).alloc (Nat.le_refl _) (.cells #[.int .i64 2, .int .i64 dy, .int .i64 0, .int .i64 0, .int .i64 s] 48))
 clear hj
 go_enter Tryz.func95, Tryz.ntmps95
 go_wp2_with fail
 refine (CD.out _).mono ?_
 rintro e w' ⟨rfl, rfl⟩
 go_wp2_with fail
 go_ret
 exact ⟨rfl, HA.out⟩
set_option maxHeartbeats 4000000 in
set_option maxRecDepth 100000 in
theorem ref_day_m (dy m k y s : Int) (d0 : 0 ≤ dy) (d1 : dy ≤ 6) (m0 : 1 ≤ m) (m1 : m ≤ 12) (k0 : 1 ≤ k) (k1 : k ≤ 4) (h0 : -2000000000 ≤ y) (h1 : y ≤ 2000000000) (w : World) :
 Calls Tryz.prog 95 #[.agg #[.int .i64 3, .int .i64 dy, .int .i64 m, .int .i64 k, .int .i64 s], .int .i64 y] w fun e w' => e = .returned (.int .i64 (fromD (dayOf y m (7 * k - 6)) dy)) ∧ Below w.heap.size w w' := by
 have CD := Lib.hid (ref_days y 1 1 h0 h1 (by decide) (by decide) (by decide) (by have := (cum_top y 1 (by decide) (by decide)).2.2.1; omega))
 have CO := Lib.hid (ref_on_from y m dy (7 * k - 6) h0 h1 m0 m1 d0 d1 (by omega) (by omega))
 have HA := Lib.hid ((Below.refl _ w).alloc (Nat.le_refl _) (.cells #[.int .i64 3, .int .i64 dy, .int .i64 m, .int .i64 k, .int .i64 s] 48))
 have hk5 : (k == 5) = false := by rw [beq_eq_false_iff_ne]; omega
 go_enter Tryz.func95, Tryz.ntmps95
 go_wp2_with fail
 refine (CD.out _).mono ?_
 rintro e w' ⟨rfl, rfl⟩
 go_wp2_with fail
 have HN := Lib.hid ((HA.out.alloc (by simp) (.cells #[.int .i64 3, .int .i64 dy, .int .i64 (7 * k - 6)] 180)))
 refine (CO.out _).mono ?_
 rintro e V ⟨rfl, hb⟩
 have HV := Lib.hid (HN.out.trans (hb.mono HN.out.size))
 clear hb
 go_wp2_with fail
 go_ret
 exact ⟨rfl, HV.out⟩
set_option maxHeartbeats 4000000 in
set_option maxRecDepth 100000 in
theorem ref_day_l (dy m y s : Int) (d0 : 0 ≤ dy) (d1 : dy ≤ 6) (m0 : 1 ≤ m) (m1 : m ≤ 12) (h0 : -2000000000 ≤ y) (h1 : y ≤ 2000000000) (w : World) :
 Calls Tryz.prog 95 #[.agg #[.int .i64 3, .int .i64 dy, .int .i64 m, .int .i64 5, .int .i64 s], .int .i64 y] w fun e w' => e = .returned (.int .i64 (lastD (dayOf y m (mlen y m)) dy)) ∧ Below w.heap.size w w' := by
 have CD := Lib.hid (ref_days y 1 1 h0 h1 (by decide) (by decide) (by decide) (by have := (cum_top y 1 (by decide) (by decide)).2.2.1; omega))
 have CO := Lib.hid (ref_on_last y m dy h0 h1 m0 m1 d0 d1)
 have HA := Lib.hid ((Below.refl _ w).alloc (Nat.le_refl _) (.cells #[.int .i64 3, .int .i64 dy, .int .i64 m, .int .i64 5, .int .i64 s] 48))
 go_enter Tryz.func95, Tryz.ntmps95
 go_wp2_with fail
 refine (CD.out _).mono ?_
 rintro e w' ⟨rfl, rfl⟩
 go_wp2_with fail
 have HN := Lib.hid ((HA.out.alloc (by simp) (.cells #[.int .i64 2, .int .i64 dy, .int .i64 0] 180)))
 refine (CO.out _).mono ?_
 rintro e V ⟨rfl, hb⟩
 have HV := Lib.hid (HN.out.trans (hb.mono HN.out.size))
 clear hb
 go_wp2_with fail
 go_ret
 exact ⟨rfl, HV.out⟩
theorem day_any (d : Dt) (y : Int) (hd : d.ok = true) (h0 : -2000000000 ≤ y) (h1 : y ≤ 2000000000) (w : World) (hB : BeforeAt w) (hK : KindsAt w) :
 Calls Tryz.prog 152 #[d.val, .int .i64 y] w fun e w' => e = .returned (.int .i64 (dayD d y)) ∧ Below w.heap.size w w' := by
 rw [Dt.ok_iff] at hd
 obtain ⟨kd, dy, m, k, s⟩ := d
 obtain ⟨_, ⟨rfl, d0, d1, rfl, rfl⟩ | ⟨rfl, d0, d1, rfl, rfl⟩ | ⟨rfl, m0, m1, k0, k1, d0, d1⟩⟩ := hd
 · exact day_j dy y s d0 d1 h0 h1 w hB
 · exact day_z dy y s d0 d1 h0 h1 w hB
 · by_cases h5 : k = 5
   · subst h5
     exact day_l dy m y s d0 d1 m0 m1 h0 h1 w hB hK
   · have h := day_m dy m k y s d0 d1 m0 m1 k0 (show k ≤ 4 by have : k ≤ 5 := k1; omega) h0 h1 w hB hK
     have e : dayD ⟨3, dy, m, k, s⟩ y = fromD (dayOf y m (7 * k - 6)) dy := by
      unfold dayD
      rw [if_neg (show ¬(3 : Int) = 1 by decide), if_neg (show ¬(3 : Int) = 2 by decide), if_neg h5]
     rw [e]
     exact h
theorem ref_day (d : Dt) (y : Int) (hd : d.ok = true) (h0 : -2000000000 ≤ y) (h1 : y ≤ 2000000000) (w : World) :
 Calls Tryz.prog 95 #[d.val, .int .i64 y] w fun e w' => e = .returned (.int .i64 (dayD d y)) ∧ Below w.heap.size w w' := by
 rw [Dt.ok_iff] at hd
 obtain ⟨kd, dy, m, k, s⟩ := d
 obtain ⟨_, ⟨rfl, d0, d1, rfl, rfl⟩ | ⟨rfl, d0, d1, rfl, rfl⟩ | ⟨rfl, m0, m1, k0, k1, d0, d1⟩⟩ := hd
 · exact ref_day_j dy y s d0 d1 h0 h1 w
 · exact ref_day_z dy y s d0 d1 h0 h1 w
 · by_cases h5 : k = 5
   · subst h5
     exact ref_day_l dy m y s d0 d1 m0 m1 h0 h1 w
   · have h := ref_day_m dy m k y s d0 d1 m0 m1 k0 (show k ≤ 4 by have : k ≤ 5 := k1; omega) h0 h1 w
     have e : dayD ⟨3, dy, m, k, s⟩ y = fromD (dayOf y m (7 * k - 6)) dy := by
      unfold dayD
      rw [if_neg (show ¬(3 : Int) = 1 by decide), if_neg (show ¬(3 : Int) = 2 by decide), if_neg h5]
     rw [e]
     exact h
end Go.Proofs.YtkpmmabdpeobaaaGreatDoor.Px
namespace Go.Proofs.YtkpmmabdpeobaaaGreatDoor.Px
open Go.RowKit
open Civ
theorem in64 (x a b : Int) (r : Bool) (hr : decide (a ≤ x ∧ x ≤ b) = r) (w : World) :
 Calls Tryz.prog 102 #[.int .i64 x, .int .i64 a, .int .i64 b] w fun e w' => e = .returned (.bool r) ∧ w = w' := by
 by_cases h1 : a ≤ x
 · by_cases h2 : x ≤ b
   · obtain rfl : r = true := by rw [← hr]; exact decide_eq_true ⟨h1, h2⟩
     clear hr
     go_enter Tryz.func102, Tryz.ntmps102
     go_wp2_with fail
     go_ret
     exact ⟨rfl, rfl⟩
   · obtain rfl : r = false := by rw [← hr]; exact decide_eq_false (fun h => h2 h.2)
     clear hr
     go_enter Tryz.func102, Tryz.ntmps102
     go_wp2_with fail
     go_ret
     exact ⟨rfl, rfl⟩
 · obtain rfl : r = false := by rw [← hr]; exact decide_eq_false (fun h => h1 h.1)
   clear hr
   go_enter Tryz.func102, Tryz.ntmps102
   go_wp2_with fail
   go_ret
   exact ⟨rfl, rfl⟩
theorem in_int (x a b : Int) (r : Bool) (hr : decide (a ≤ x ∧ x ≤ b) = r) (w : World) :
 Calls Tryz.prog 149 #[.int .i64 x, .int .i64 a, .int .i64 b] w fun e w' => e = .returned (.bool r) ∧ w = w' := by
 by_cases h1 : a ≤ x
 · by_cases h2 : x ≤ b
   · obtain rfl : r = true := by rw [← hr]; exact decide_eq_true ⟨h1, h2⟩
     clear hr
     go_enter Tryz.func149, Tryz.ntmps149
     go_wp2_with fail
     go_ret
     exact ⟨rfl, rfl⟩
   · obtain rfl : r = false := by rw [← hr]; exact decide_eq_false (fun h => h2 h.2)
     clear hr
     go_enter Tryz.func149, Tryz.ntmps149
     go_wp2_with fail
     go_ret
     exact ⟨rfl, rfl⟩
 · obtain rfl : r = false := by rw [← hr]; exact decide_eq_false (fun h => h1 h.1)
   clear hr
   go_enter Tryz.func149, Tryz.ntmps149
   go_wp2_with fail
   go_ret
   exact ⟨rfl, rfl⟩
theorem rin (x a b : Int) (r : Bool) (hr : decide (a ≤ x ∧ x ≤ b) = r) (w : World) :
 Calls Tryz.prog 158 #[.int .i64 x, .int .i64 a, .int .i64 b] w fun e w' => e = .returned (.bool r) ∧ w = w' := by
 by_cases h1 : a ≤ x
 · by_cases h2 : x ≤ b
   · obtain rfl : r = true := by rw [← hr]; exact decide_eq_true ⟨h1, h2⟩
     clear hr
     go_enter Tryz.func158, Tryz.ntmps158
     go_wp2_with fail
     go_ret
     exact ⟨rfl, rfl⟩
   · obtain rfl : r = false := by rw [← hr]; exact decide_eq_false (fun h => h2 h.2)
     clear hr
     go_enter Tryz.func158, Tryz.ntmps158
     go_wp2_with fail
     go_ret
     exact ⟨rfl, rfl⟩
 · obtain rfl : r = false := by rw [← hr]; exact decide_eq_false (fun h => h1 h.1)
   clear hr
   go_enter Tryz.func158, Tryz.ntmps158
   go_wp2_with fail
   go_ret
   exact ⟨rfl, rfl⟩
theorem roff (x : Int) (r : Bool) (hr : decide (-89999 ≤ x ∧ x ≤ 89999) = r) (w : World) :
 Calls Tryz.prog 122 #[.int .i64 x] w fun e w' => e = .returned (.bool r) ∧ w = w' := by
 by_cases h1 : -89999 ≤ x
 · by_cases h2 : x ≤ 89999
   · obtain rfl : r = true := by rw [← hr]; exact decide_eq_true ⟨h1, h2⟩
     clear hr
     go_enter Tryz.func122, Tryz.ntmps122
     go_wp2_with fail
     go_ret
     exact ⟨rfl, rfl⟩
   · obtain rfl : r = false := by rw [← hr]; exact decide_eq_false (fun h => h2 h.2)
     clear hr
     go_enter Tryz.func122, Tryz.ntmps122
     go_wp2_with fail
     go_ret
     exact ⟨rfl, rfl⟩
 · obtain rfl : r = false := by rw [← hr]; exact decide_eq_false (fun h => h1 h.1)
   clear hr
   go_enter Tryz.func122, Tryz.ntmps122
   go_wp2_with fail
   go_ret
   exact ⟨rfl, rfl⟩
theorem ok_1 (dy m k s : Int) : Dt.ok ⟨1, dy, m, k, s⟩ = (decide (-604799 ≤ s ∧ s ≤ 604799) && (decide (1 ≤ dy ∧ dy ≤ 365) && (decide (m = 0) && decide (k = 0)))) := by
 rw [Bool.eq_iff_iff, Dt.ok_iff]; dsimp only; simp only [Bool.and_eq_true, decide_eq_true_eq]
 constructor
 · rintro ⟨a, h | h | h⟩
   · exact ⟨a, ⟨h.2.1, h.2.2.1⟩, h.2.2.2⟩
   · exact absurd h.1 (by decide)
   · exact absurd h.1 (by decide)
 · rintro ⟨a, b, c⟩
   exact ⟨a, .inl ⟨trivial, b.1, b.2, c⟩⟩
theorem ok_2 (dy m k s : Int) : Dt.ok ⟨2, dy, m, k, s⟩ = (decide (-604799 ≤ s ∧ s ≤ 604799) && (decide (0 ≤ dy ∧ dy ≤ 365) && (decide (m = 0) && decide (k = 0)))) := by
 rw [Bool.eq_iff_iff, Dt.ok_iff]; dsimp only; simp only [Bool.and_eq_true, decide_eq_true_eq]
 constructor
 · rintro ⟨a, h | h | h⟩
   · exact absurd h.1 (by decide)
   · exact ⟨a, ⟨h.2.1, h.2.2.1⟩, h.2.2.2⟩
   · exact absurd h.1 (by decide)
 · rintro ⟨a, b, c⟩
   exact ⟨a, .inr (.inl ⟨trivial, b.1, b.2, c⟩)⟩
theorem ok_3 (dy m k s : Int) : Dt.ok ⟨3, dy, m, k, s⟩ = (decide (-604799 ≤ s ∧ s ≤ 604799) && (decide (1 ≤ m ∧ m ≤ 12) && (decide (1 ≤ k ∧ k ≤ 5) && decide (0 ≤ dy ∧ dy ≤ 6)))) := by
 rw [Bool.eq_iff_iff, Dt.ok_iff]; dsimp only; simp only [Bool.and_eq_true, decide_eq_true_eq]
 constructor
 · rintro ⟨a, h | h | h⟩
   · exact absurd h.1 (by decide)
   · exact absurd h.1 (by decide)
   · exact ⟨a, ⟨h.2.1, h.2.2.1⟩, ⟨h.2.2.2.1, h.2.2.2.2.1⟩, h.2.2.2.2.2⟩
 · rintro ⟨a, b, c, d⟩
   exact ⟨a, .inr (.inr ⟨trivial, b.1, b.2, c.1, c.2, d⟩)⟩
theorem ok_4 (kd dy m k s : Int) (h1 : kd ≠ 1) (h2 : kd ≠ 2) (h3 : kd ≠ 3) : Dt.ok ⟨kd, dy, m, k, s⟩ = false := by
 rw [Bool.eq_false_iff, ne_eq, Dt.ok_iff]; dsimp only; omega
set_option maxHeartbeats 2000000 in
theorem date_1 (dy m k s : Int) (w : World) :
 Calls Tryz.prog 103 #[.agg #[.int .i64 1, .int .i64 dy, .int .i64 m, .int .i64 k, .int .i64 s]] w fun e w' => e = .returned (.bool (Dt.ok ⟨1, dy, m, k, s⟩)) ∧ Below w.heap.size w w' := by
 rw [ok_1]
 obtain ⟨bS, hS⟩ : ∃ b, decide (-604799 ≤ s ∧ s ≤ 604799) = b := ⟨_, rfl⟩
 obtain ⟨bD, hD⟩ : ∃ b, decide (1 ≤ dy ∧ dy ≤ 365) = b := ⟨_, rfl⟩
 obtain ⟨bM, hM⟩ : ∃ b, decide (m = 0) = b := ⟨_, rfl⟩
 obtain ⟨bK, hK⟩ : ∃ b, decide (k = 0) = b := ⟨_, rfl⟩
 have tM : (m == 0) = bM := hM
 have tK : (k == 0) = bK := hK
 have CS := Lib.hid (in64 s (-604799) 604799 bS hS)
 have CD := Lib.hid (in_int dy 1 365 bD hD)
 rw [hS, hD, hM, hK]
 clear hS hD hM hK
 cases bS
 · clear tM tK CD
   go_enter Tryz.func103, Tryz.ntmps103
   go_wp2_with fail
   refine (CS.out _).mono ?_
   rintro e w' ⟨rfl, rfl⟩
   go_wp2_with fail
   go_ret
   exact ⟨rfl, ((Below.refl _ _).alloc (Nat.le_refl _) _)⟩
 · cases bD
   · clear tM tK
     go_enter Tryz.func103, Tryz.ntmps103
     go_wp2_with fail
     refine (CS.out _).mono ?_
     rintro e w' ⟨rfl, rfl⟩
     go_wp2_with fail
     refine (CD.out _).mono ?_
     rintro e w' ⟨rfl, rfl⟩
     go_wp2_with fail
     go_ret
     exact ⟨rfl, ((Below.refl _ _).alloc (Nat.le_refl _) _)⟩
   · cases bM
     · clear tK
       go_enter Tryz.func103, Tryz.ntmps103
       go_wp2_with fail
       refine (CS.out _).mono ?_
       rintro e w' ⟨rfl, rfl⟩
       go_wp2_with fail
       refine (CD.out _).mono ?_
       rintro e w' ⟨rfl, rfl⟩
       go_wp2_with fail
       go_ret
       exact ⟨rfl, ((Below.refl _ _).alloc (Nat.le_refl _) _)⟩
     · cases bK
       · go_enter Tryz.func103, Tryz.ntmps103
         go_wp2_with fail
         refine (CS.out _).mono ?_
         rintro e w' ⟨rfl, rfl⟩
         go_wp2_with fail
         refine (CD.out _).mono ?_
         rintro e w' ⟨rfl, rfl⟩
         go_wp2_with fail
         go_ret
         exact ⟨rfl, ((Below.refl _ _).alloc (Nat.le_refl _) _)⟩
       · go_enter Tryz.func103, Tryz.ntmps103
         go_wp2_with fail
         refine (CS.out _).mono ?_
         rintro e w' ⟨rfl, rfl⟩
         go_wp2_with fail
         refine (CD.out _).mono ?_
         rintro e w' ⟨rfl, rfl⟩
         go_wp2_with fail
         go_ret
         exact ⟨rfl, ((Below.refl _ _).alloc (Nat.le_refl _) _)⟩
set_option maxHeartbeats 2000000 in
theorem date_2 (dy m k s : Int) (w : World) :
 Calls Tryz.prog 103 #[.agg #[.int .i64 2, .int .i64 dy, .int .i64 m, .int .i64 k, .int .i64 s]] w fun e w' => e = .returned (.bool (Dt.ok ⟨2, dy, m, k, s⟩)) ∧ Below w.heap.size w w' := by
 rw [ok_2]
 obtain ⟨bS, hS⟩ : ∃ b, decide (-604799 ≤ s ∧ s ≤ 604799) = b := ⟨_, rfl⟩
 obtain ⟨bD, hD⟩ : ∃ b, decide (0 ≤ dy ∧ dy ≤ 365) = b := ⟨_, rfl⟩
 obtain ⟨bM, hM⟩ : ∃ b, decide (m = 0) = b := ⟨_, rfl⟩
 obtain ⟨bK, hK⟩ : ∃ b, decide (k = 0) = b := ⟨_, rfl⟩
 have tM : (m == 0) = bM := hM
 have tK : (k == 0) = bK := hK
 have CS := Lib.hid (in64 s (-604799) 604799 bS hS)
 have CD := Lib.hid (in_int dy 0 365 bD hD)
 rw [hS, hD, hM, hK]
 clear hS hD hM hK
 cases bS
 · clear tM tK CD
   go_enter Tryz.func103, Tryz.ntmps103
   go_wp2_with fail
   refine (CS.out _).mono ?_
   rintro e w' ⟨rfl, rfl⟩
   go_wp2_with fail
   go_ret
   exact ⟨rfl, ((Below.refl _ _).alloc (Nat.le_refl _) _)⟩
 · cases bD
   · clear tM tK
     go_enter Tryz.func103, Tryz.ntmps103
     go_wp2_with fail
     refine (CS.out _).mono ?_
     rintro e w' ⟨rfl, rfl⟩
     go_wp2_with fail
     refine (CD.out _).mono ?_
     rintro e w' ⟨rfl, rfl⟩
     go_wp2_with fail
     go_ret
     exact ⟨rfl, ((Below.refl _ _).alloc (Nat.le_refl _) _)⟩
   · cases bM
     · clear tK
       go_enter Tryz.func103, Tryz.ntmps103
       go_wp2_with fail
       refine (CS.out _).mono ?_
       rintro e w' ⟨rfl, rfl⟩
       go_wp2_with fail
       refine (CD.out _).mono ?_
       rintro e w' ⟨rfl, rfl⟩
       go_wp2_with fail
       go_ret
       exact ⟨rfl, ((Below.refl _ _).alloc (Nat.le_refl _) _)⟩
     · cases bK
       · go_enter Tryz.func103, Tryz.ntmps103
         go_wp2_with fail
         refine (CS.out _).mono ?_
         rintro e w' ⟨rfl, rfl⟩
         go_wp2_with fail
         refine (CD.out _).mono ?_
         rintro e w' ⟨rfl, rfl⟩
         go_wp2_with fail
         go_ret
         exact ⟨rfl, ((Below.refl _ _).alloc (Nat.le_refl _) _)⟩
       · go_enter Tryz.func103, Tryz.ntmps103
         go_wp2_with fail
         refine (CS.out _).mono ?_
         rintro e w' ⟨rfl, rfl⟩
         go_wp2_with fail
         refine (CD.out _).mono ?_
         rintro e w' ⟨rfl, rfl⟩
         go_wp2_with fail
         go_ret
         exact ⟨rfl, ((Below.refl _ _).alloc (Nat.le_refl _) _)⟩
set_option maxHeartbeats 2000000 in
theorem date_3 (dy m k s : Int) (w : World) :
 Calls Tryz.prog 103 #[.agg #[.int .i64 3, .int .i64 dy, .int .i64 m, .int .i64 k, .int .i64 s]] w fun e w' => e = .returned (.bool (Dt.ok ⟨3, dy, m, k, s⟩)) ∧ Below w.heap.size w w' := by
 rw [ok_3]
 obtain ⟨bS, hS⟩ : ∃ b, decide (-604799 ≤ s ∧ s ≤ 604799) = b := ⟨_, rfl⟩
 obtain ⟨bM, hM⟩ : ∃ b, decide (1 ≤ m ∧ m ≤ 12) = b := ⟨_, rfl⟩
 obtain ⟨bK, hK⟩ : ∃ b, decide (1 ≤ k ∧ k ≤ 5) = b := ⟨_, rfl⟩
 obtain ⟨bD, hD⟩ : ∃ b, decide (0 ≤ dy ∧ dy ≤ 6) = b := ⟨_, rfl⟩
 have CS := Lib.hid (in64 s (-604799) 604799 bS hS)
 have CM := Lib.hid (in_int m 1 12 bM hM)
 have CK := Lib.hid (in_int k 1 5 bK hK)
 have CD := Lib.hid (in_int dy 0 6 bD hD)
 rw [hS, hD, hM, hK]
 clear hS hD hM hK
 cases bS
 · clear CD CM CK
   go_enter Tryz.func103, Tryz.ntmps103
   go_wp2_with fail
   refine (CS.out _).mono ?_
   rintro e w' ⟨rfl, rfl⟩
   go_wp2_with fail
   go_ret
   exact ⟨rfl, ((Below.refl _ _).alloc (Nat.le_refl _) _)⟩
 · skip
   cases bM
   · go_enter Tryz.func103, Tryz.ntmps103
     go_wp2_with fail
     refine (CS.out _).mono ?_
     rintro e w' ⟨rfl, rfl⟩
     go_wp2_with fail
     refine (CM.out _).mono ?_
     rintro e w' ⟨rfl, rfl⟩
     go_wp2_with fail
     go_ret
     exact ⟨rfl, ((Below.refl _ _).alloc (Nat.le_refl _) _)⟩
   · cases bK
     · go_enter Tryz.func103, Tryz.ntmps103
       go_wp2_with fail
       refine (CS.out _).mono ?_
       rintro e w' ⟨rfl, rfl⟩
       go_wp2_with fail
       refine (CM.out _).mono ?_
       rintro e w' ⟨rfl, rfl⟩
       go_wp2_with fail
       refine (CK.out _).mono ?_
       rintro e w' ⟨rfl, rfl⟩
       go_wp2_with fail
       go_ret
       exact ⟨rfl, ((Below.refl _ _).alloc (Nat.le_refl _) _)⟩
     · cases bD
       · go_enter Tryz.func103, Tryz.ntmps103
         go_wp2_with fail
         refine (CS.out _).mono ?_
         rintro e w' ⟨rfl, rfl⟩
         go_wp2_with fail
         refine (CM.out _).mono ?_
         rintro e w' ⟨rfl, rfl⟩
         go_wp2_with fail
         refine (CK.out _).mono ?_
         rintro e w' ⟨rfl, rfl⟩
         go_wp2_with fail
         refine (CD.out _).mono ?_
         rintro e w' ⟨rfl, rfl⟩
         go_wp2_with fail
         go_ret
         exact ⟨rfl, ((Below.refl _ _).alloc (Nat.le_refl _) _)⟩
       · go_enter Tryz.func103, Tryz.ntmps103
         go_wp2_with fail
         refine (CS.out _).mono ?_
         rintro e w' ⟨rfl, rfl⟩
         go_wp2_with fail
         refine (CM.out _).mono ?_
         rintro e w' ⟨rfl, rfl⟩
         go_wp2_with fail
         refine (CK.out _).mono ?_
         rintro e w' ⟨rfl, rfl⟩
         go_wp2_with fail
         refine (CD.out _).mono ?_
         rintro e w' ⟨rfl, rfl⟩
         go_wp2_with fail
         go_ret
         exact ⟨rfl, ((Below.refl _ _).alloc (Nat.le_refl _) _)⟩
set_option maxHeartbeats 2000000 in
theorem date_4 (kd dy m k s : Int) (h1 : kd ≠ 1) (h2 : kd ≠ 2) (h3 : kd ≠ 3) (w : World) :
 Calls Tryz.prog 103 #[.agg #[.int .i64 kd, .int .i64 dy, .int .i64 m, .int .i64 k, .int .i64 s]] w fun e w' => e = .returned (.bool (Dt.ok ⟨kd, dy, m, k, s⟩)) ∧ Below w.heap.size w w' := by
 rw [ok_4 kd dy m k s h1 h2 h3]
 have t1 : (kd == 1) = false := by rw [beq_eq_false_iff_ne]; exact h1
 have t2 : (kd == 2) = false := by rw [beq_eq_false_iff_ne]; exact h2
 have t3 : (kd == 3) = false := by rw [beq_eq_false_iff_ne]; exact h3
 clear h1 h2 h3
 obtain ⟨bS, hS⟩ : ∃ b, decide (-604799 ≤ s ∧ s ≤ 604799) = b := ⟨_, rfl⟩
 have CS := Lib.hid (in64 s (-604799) 604799 bS hS)
 clear hS
 cases bS
 · go_enter Tryz.func103, Tryz.ntmps103
   go_wp2_with fail
   refine (CS.out _).mono ?_
   rintro e w' ⟨rfl, rfl⟩
   go_wp2_with fail
   go_ret
   exact ⟨rfl, ((Below.refl _ _).alloc (Nat.le_refl _) _)⟩
 · go_enter Tryz.func103, Tryz.ntmps103
   go_wp2_with fail
   refine (CS.out _).mono ?_
   rintro e w' ⟨rfl, rfl⟩
   go_wp2_with fail
   go_ret
   exact ⟨rfl, ((Below.refl _ _).alloc (Nat.le_refl _) _)⟩
theorem date_any (d : Dt) (w : World) : Calls Tryz.prog 103 #[d.val] w fun e w' => e = .returned (.bool d.ok) ∧ Below w.heap.size w w' := by
 obtain ⟨kd, dy, m, k, s⟩ := d
 by_cases h1 : kd = 1
 · subst h1; exact date_1 dy m k s w
 · by_cases h2 : kd = 2
   · subst h2; exact date_2 dy m k s w
   · by_cases h3 : kd = 3
     · subst h3; exact date_3 dy m k s w
     · exact date_4 kd dy m k s h1 h2 h3 w
set_option maxHeartbeats 2000000 in
theorem ref_date_1 (dy m k s : Int) (w : World) :
 Calls Tryz.prog 123 #[.agg #[.int .i64 1, .int .i64 dy, .int .i64 m, .int .i64 k, .int .i64 s]] w fun e w' => e = .returned (.bool (Dt.ok ⟨1, dy, m, k, s⟩)) ∧ Below w.heap.size w w' := by
 rw [ok_1]
 obtain ⟨bS, hS⟩ : ∃ b, decide (-604799 ≤ s ∧ s ≤ 604799) = b := ⟨_, rfl⟩
 obtain ⟨bD, hD⟩ : ∃ b, decide (1 ≤ dy ∧ dy ≤ 365) = b := ⟨_, rfl⟩
 obtain ⟨bM, hM⟩ : ∃ b, decide (m = 0) = b := ⟨_, rfl⟩
 obtain ⟨bK, hK⟩ : ∃ b, decide (k = 0) = b := ⟨_, rfl⟩
 have tM : (m == 0) = bM := hM
 have tK : (k == 0) = bK := hK
 have CD := Lib.hid (rin dy 1 365 bD hD)
 rw [hS, hD, hM, hK]
 cases bS
 · have hs := of_decide_eq_false hS
   clear hS hD hM hK tM tK CD
   by_cases s1 : s < -604799
   · go_enter Tryz.func123, Tryz.ntmps123
     go_wp2_with fail
     go_ret
     exact ⟨rfl, ((Below.refl _ _).alloc (Nat.le_refl _) _)⟩
   · have s2 : 604799 < s := by omega
     clear hs
     go_enter Tryz.func123, Tryz.ntmps123
     go_wp2_with fail
     go_ret
     exact ⟨rfl, ((Below.refl _ _).alloc (Nat.le_refl _) _)⟩
 · obtain ⟨s1, s2⟩ := of_decide_eq_true hS
   clear hS hD hM hK
   cases bD
   · clear tM tK
     go_enter Tryz.func123, Tryz.ntmps123
     go_wp2_with fail
     refine (CD.out _).mono ?_
     rintro e w' ⟨rfl, rfl⟩
     go_wp2_with fail
     go_ret
     exact ⟨rfl, ((Below.refl _ _).alloc (Nat.le_refl _) _)⟩
   · cases bM
     · clear tK
       go_enter Tryz.func123, Tryz.ntmps123
       go_wp2_with fail
       refine (CD.out _).mono ?_
       rintro e w' ⟨rfl, rfl⟩
       go_wp2_with fail
       go_ret
       exact ⟨rfl, ((Below.refl _ _).alloc (Nat.le_refl _) _)⟩
     · cases bK
       · go_enter Tryz.func123, Tryz.ntmps123
         go_wp2_with fail
         refine (CD.out _).mono ?_
         rintro e w' ⟨rfl, rfl⟩
         go_wp2_with fail
         go_ret
         exact ⟨rfl, ((Below.refl _ _).alloc (Nat.le_refl _) _)⟩
       · go_enter Tryz.func123, Tryz.ntmps123
         go_wp2_with fail
         refine (CD.out _).mono ?_
         rintro e w' ⟨rfl, rfl⟩
         go_wp2_with fail
         go_ret
         exact ⟨rfl, ((Below.refl _ _).alloc (Nat.le_refl _) _)⟩
set_option maxHeartbeats 2000000 in
theorem ref_date_2 (dy m k s : Int) (w : World) :
 Calls Tryz.prog 123 #[.agg #[.int .i64 2, .int .i64 dy, .int .i64 m, .int .i64 k, .int .i64 s]] w fun e w' => e = .returned (.bool (Dt.ok ⟨2, dy, m, k, s⟩)) ∧ Below w.heap.size w w' := by
 rw [ok_2]
 obtain ⟨bS, hS⟩ : ∃ b, decide (-604799 ≤ s ∧ s ≤ 604799) = b := ⟨_, rfl⟩
 obtain ⟨bD, hD⟩ : ∃ b, decide (0 ≤ dy ∧ dy ≤ 365) = b := ⟨_, rfl⟩
 obtain ⟨bM, hM⟩ : ∃ b, decide (m = 0) = b := ⟨_, rfl⟩
 obtain ⟨bK, hK⟩ : ∃ b, decide (k = 0) = b := ⟨_, rfl⟩
 have tM : (m == 0) = bM := hM
 have tK : (k == 0) = bK := hK
 have CD := Lib.hid (rin dy 0 365 bD hD)
 rw [hS, hD, hM, hK]
 cases bS
 · have hs := of_decide_eq_false hS
   clear hS hD hM hK tM tK CD
   by_cases s1 : s < -604799
   · go_enter Tryz.func123, Tryz.ntmps123
     go_wp2_with fail
     go_ret
     exact ⟨rfl, ((Below.refl _ _).alloc (Nat.le_refl _) _)⟩
   · have s2 : 604799 < s := by omega
     clear hs
     go_enter Tryz.func123, Tryz.ntmps123
     go_wp2_with fail
     go_ret
     exact ⟨rfl, ((Below.refl _ _).alloc (Nat.le_refl _) _)⟩
 · obtain ⟨s1, s2⟩ := of_decide_eq_true hS
   clear hS hD hM hK
   cases bD
   · clear tM tK
     go_enter Tryz.func123, Tryz.ntmps123
     go_wp2_with fail
     refine (CD.out _).mono ?_
     rintro e w' ⟨rfl, rfl⟩
     go_wp2_with fail
     go_ret
     exact ⟨rfl, ((Below.refl _ _).alloc (Nat.le_refl _) _)⟩
   · cases bM
     · clear tK
       go_enter Tryz.func123, Tryz.ntmps123
       go_wp2_with fail
       refine (CD.out _).mono ?_
       rintro e w' ⟨rfl, rfl⟩
       go_wp2_with fail
       go_ret
       exact ⟨rfl, ((Below.refl _ _).alloc (Nat.le_refl _) _)⟩
     · cases bK
       · go_enter Tryz.func123, Tryz.ntmps123
         go_wp2_with fail
         refine (CD.out _).mono ?_
         rintro e w' ⟨rfl, rfl⟩
         go_wp2_with fail
         go_ret
         exact ⟨rfl, ((Below.refl _ _).alloc (Nat.le_refl _) _)⟩
       · go_enter Tryz.func123, Tryz.ntmps123
         go_wp2_with fail
         refine (CD.out _).mono ?_
         rintro e w' ⟨rfl, rfl⟩
         go_wp2_with fail
         go_ret
         exact ⟨rfl, ((Below.refl _ _).alloc (Nat.le_refl _) _)⟩
set_option maxHeartbeats 2000000 in
theorem ref_date_3 (dy m k s : Int) (w : World) :
 Calls Tryz.prog 123 #[.agg #[.int .i64 3, .int .i64 dy, .int .i64 m, .int .i64 k, .int .i64 s]] w fun e w' => e = .returned (.bool (Dt.ok ⟨3, dy, m, k, s⟩)) ∧ Below w.heap.size w w' := by
 rw [ok_3]
 obtain ⟨bS, hS⟩ : ∃ b, decide (-604799 ≤ s ∧ s ≤ 604799) = b := ⟨_, rfl⟩
 obtain ⟨bM, hM⟩ : ∃ b, decide (1 ≤ m ∧ m ≤ 12) = b := ⟨_, rfl⟩
 obtain ⟨bK, hK⟩ : ∃ b, decide (1 ≤ k ∧ k ≤ 5) = b := ⟨_, rfl⟩
 obtain ⟨bD, hD⟩ : ∃ b, decide (0 ≤ dy ∧ dy ≤ 6) = b := ⟨_, rfl⟩
 have CM := Lib.hid (rin m 1 12 bM hM)
 have CK := Lib.hid (rin k 1 5 bK hK)
 have CD := Lib.hid (rin dy 0 6 bD hD)
 rw [hS, hD, hM, hK]
 cases bS
 · have hs := of_decide_eq_false hS
   clear hS hD hM hK CD CM CK
   by_cases s1 : s < -604799
   · go_enter Tryz.func123, Tryz.ntmps123
     go_wp2_with fail
     go_ret
     exact ⟨rfl, ((Below.refl _ _).alloc (Nat.le_refl _) _)⟩
   · have s2 : 604799 < s := by omega
     clear hs
     go_enter Tryz.func123, Tryz.ntmps123
     go_wp2_with fail
     go_ret
     exact ⟨rfl, ((Below.refl _ _).alloc (Nat.le_refl _) _)⟩
 · obtain ⟨s1, s2⟩ := of_decide_eq_true hS
   clear hS hD hM hK
   cases bM
   · go_enter Tryz.func123, Tryz.ntmps123
     go_wp2_with fail
     refine (CM.out _).mono ?_
     rintro e w' ⟨rfl, rfl⟩
     go_wp2_with fail
     go_ret
     exact ⟨rfl, ((Below.refl _ _).alloc (Nat.le_refl _) _)⟩
   · cases bK
     · go_enter Tryz.func123, Tryz.ntmps123
       go_wp2_with fail
       refine (CM.out _).mono ?_
       rintro e w' ⟨rfl, rfl⟩
       go_wp2_with fail
       refine (CK.out _).mono ?_
       rintro e w' ⟨rfl, rfl⟩
       go_wp2_with fail
       go_ret
       exact ⟨rfl, ((Below.refl _ _).alloc (Nat.le_refl _) _)⟩
     · cases bD
       · go_enter Tryz.func123, Tryz.ntmps123
         go_wp2_with fail
         refine (CM.out _).mono ?_
         rintro e w' ⟨rfl, rfl⟩
         go_wp2_with fail
         refine (CK.out _).mono ?_
         rintro e w' ⟨rfl, rfl⟩
         go_wp2_with fail
         refine (CD.out _).mono ?_
         rintro e w' ⟨rfl, rfl⟩
         go_wp2_with fail
         go_ret
         exact ⟨rfl, ((Below.refl _ _).alloc (Nat.le_refl _) _)⟩
       · go_enter Tryz.func123, Tryz.ntmps123
         go_wp2_with fail
         refine (CM.out _).mono ?_
         rintro e w' ⟨rfl, rfl⟩
         go_wp2_with fail
         refine (CK.out _).mono ?_
         rintro e w' ⟨rfl, rfl⟩
         go_wp2_with fail
         refine (CD.out _).mono ?_
         rintro e w' ⟨rfl, rfl⟩
         go_wp2_with fail
         go_ret
         exact ⟨rfl, ((Below.refl _ _).alloc (Nat.le_refl _) _)⟩
set_option maxHeartbeats 2000000 in
theorem ref_date_4 (kd dy m k s : Int) (h1 : kd ≠ 1) (h2 : kd ≠ 2) (h3 : kd ≠ 3) (w : World) :
 Calls Tryz.prog 123 #[.agg #[.int .i64 kd, .int .i64 dy, .int .i64 m, .int .i64 k, .int .i64 s]] w fun e w' => e = .returned (.bool (Dt.ok ⟨kd, dy, m, k, s⟩)) ∧ Below w.heap.size w w' := by
 rw [ok_4 kd dy m k s h1 h2 h3]
 have t1 : (kd == 1) = false := by rw [beq_eq_false_iff_ne]; exact h1
 have t2 : (kd == 2) = false := by rw [beq_eq_false_iff_ne]; exact h2
 have t3 : (kd == 3) = false := by rw [beq_eq_false_iff_ne]; exact h3
 clear h1 h2 h3
 by_cases s1 : s < -604799
 · go_enter Tryz.func123, Tryz.ntmps123
   go_wp2_with fail
   go_ret
   exact ⟨rfl, ((Below.refl _ _).alloc (Nat.le_refl _) _)⟩
 · by_cases s2 : 604799 < s
   · go_enter Tryz.func123, Tryz.ntmps123
     go_wp2_with fail
     go_ret
     exact ⟨rfl, ((Below.refl _ _).alloc (Nat.le_refl _) _)⟩
   · go_enter Tryz.func123, Tryz.ntmps123
     go_wp2_with fail
     go_ret
     exact ⟨rfl, ((Below.refl _ _).alloc (Nat.le_refl _) _)⟩
theorem ref_date_any (d : Dt) (w : World) : Calls Tryz.prog 123 #[d.val] w fun e w' => e = .returned (.bool d.ok) ∧ Below w.heap.size w w' := by
 obtain ⟨kd, dy, m, k, s⟩ := d
 by_cases h1 : kd = 1
 · subst h1; exact ref_date_1 dy m k s w
 · by_cases h2 : kd = 2
   · subst h2; exact ref_date_2 dy m k s w
   · by_cases h3 : kd = 3
     · subst h3; exact ref_date_3 dy m k s w
     · exact ref_date_4 kd dy m k s h1 h2 h3 w
end Go.Proofs.YtkpmmabdpeobaaaGreatDoor.Px
