/- The functions posix.day and analemmaref37.day, called with a right date: the day that it means in a year. -/
import Derived.Test.YtgllbagmmpicaaaGreatDoorPxP
import Derived.Laws.EntriesVeiled
namespace Go.Proofs.YtgllbagmmpicaaaGreatDoor.Px
open Go.RowKit
open Civ

set_option maxHeartbeats 4000000 in
set_option maxRecDepth 100000 in
theorem day_j (dy y s : Int) (d0 : 1 ≤ dy) (d1 : dy ≤ 365) (h0 : -2000000000 ≤ y) (h1 : y ≤ 2000000000) (w : World) (hB : BeforeAt w) :
    Calls Tryz.prog 46 #[.agg #[.int .i64 1, .int .i64 dy, .int .i64 0, .int .i64 0, .int .i64 s], .int .i64 y] w fun e w' => e = .returned (.int .i64 (if 59 < dy ∧ leapB y = true then jan y + dy else jan y + dy - 1)) ∧ Below w.heap.size w w' := by
  obtain ⟨v0, v1⟩ := jan_bd (y := y) (by omega) (by omega)
  have CD := Lib.hid (days_any y 1 1 h0 h1 (by decide) (by decide) (by decide) (by have := (cum_top y 1 (by decide) (by decide)).2.2.1; omega))
  have hj : dayOf y 1 1 = jan y := by unfold dayOf; rw [show cum y 1 = 0 from rfl]; omega
  rw [hj] at CD
  have CL := Lib.hid (leap_any y)
  have HA := Lib.hid ((Below.refl _ w).alloc (Nat.le_refl _) (.cells #[.int .i64 1, .int .i64 dy, .int .i64 0, .int .i64 0, .int .i64 s] 23))
  have HB := Lib.hid hB
  clear hj hB
  obtain ⟨b, hb⟩ : ∃ b, leapB y = b := ⟨_, rfl⟩
  rw [hb] at CL ⊢
  clear hb
  by_cases h : 59 < dy
  · cases b
    · rw [if_neg (by simp)]
      go_enter Tryz.func46, Tryz.ntmps46
      go_wp2_with fail
      refine (CD.out _ (HB.out.keep HA.out)).mono ?_
      rintro e w' ⟨rfl, n, rfl⟩
      go_wp2_with fail
      refine (CL.out _).mono ?_
      rintro e w' ⟨rfl, rfl⟩
      go_wp2_with fail
      go_ret
      exact ⟨ret1 (by omega), below_drewN HA.out n⟩
    · rw [if_pos ⟨h, rfl⟩]
      go_enter Tryz.func46, Tryz.ntmps46
      go_wp2_with fail
      refine (CD.out _ (HB.out.keep HA.out)).mono ?_
      rintro e w' ⟨rfl, n, rfl⟩
      go_wp2_with fail
      refine (CL.out _).mono ?_
      rintro e w' ⟨rfl, rfl⟩
      go_wp2_with fail
      go_ret
      exact ⟨ret1 (by omega), below_drewN HA.out n⟩
  · rw [if_neg (by omega)]
    go_enter Tryz.func46, Tryz.ntmps46
    go_wp2_with fail
    refine (CD.out _ (HB.out.keep HA.out)).mono ?_
    rintro e w' ⟨rfl, n, rfl⟩
    go_wp2_with fail
    go_ret
    exact ⟨ret1 (by omega), below_drewN HA.out n⟩
set_option maxHeartbeats 4000000 in
set_option maxRecDepth 100000 in
theorem day_z (dy y s : Int) (d0 : 0 ≤ dy) (d1 : dy ≤ 365) (h0 : -2000000000 ≤ y) (h1 : y ≤ 2000000000) (w : World) (hB : BeforeAt w) :
    Calls Tryz.prog 46 #[.agg #[.int .i64 2, .int .i64 dy, .int .i64 0, .int .i64 0, .int .i64 s], .int .i64 y] w fun e w' => e = .returned (.int .i64 (jan y + dy)) ∧ Below w.heap.size w w' := by
  obtain ⟨v0, v1⟩ := jan_bd (y := y) (by omega) (by omega)
  have CD := Lib.hid (days_any y 1 1 h0 h1 (by decide) (by decide) (by decide) (by have := (cum_top y 1 (by decide) (by decide)).2.2.1; omega))
  have hj : dayOf y 1 1 = jan y := by unfold dayOf; rw [show cum y 1 = 0 from rfl]; omega
  rw [hj] at CD
  have HA := Lib.hid ((Below.refl _ w).alloc (Nat.le_refl _) (.cells #[.int .i64 2, .int .i64 dy, .int .i64 0, .int .i64 0, .int .i64 s] 23))
  have HB := Lib.hid hB
  clear hj hB
  go_enter Tryz.func46, Tryz.ntmps46
  go_wp2_with fail
  refine (CD.out _ (HB.out.keep HA.out)).mono ?_
  rintro e w' ⟨rfl, n, rfl⟩
  go_wp2_with fail
  go_ret
  exact ⟨rfl, below_drewN HA.out n⟩
set_option maxHeartbeats 4000000 in
set_option maxRecDepth 100000 in
theorem day_m (dy m k y s : Int) (d0 : 0 ≤ dy) (d1 : dy ≤ 6) (m0 : 1 ≤ m) (m1 : m ≤ 12) (k0 : 1 ≤ k) (k1 : k ≤ 4) (h0 : -2000000000 ≤ y) (h1 : y ≤ 2000000000) (w : World) (hB : BeforeAt w) (hK : KindsAt w) :
    Calls Tryz.prog 46 #[.agg #[.int .i64 3, .int .i64 dy, .int .i64 m, .int .i64 k, .int .i64 s], .int .i64 y] w fun e w' => e = .returned (.int .i64 (fromD (dayOf y m (7 * k - 6)) dy)) ∧ Below w.heap.size w w' := by
  have CD := Lib.hid (days_any y 1 1 h0 h1 (by decide) (by decide) (by decide) (by have := (cum_top y 1 (by decide) (by decide)).2.2.1; omega))
  have CO := Lib.hid (on_from y m dy (7 * k - 6) h0 h1 m0 m1 d0 d1 (by omega) (by omega))
  have HA := Lib.hid ((Below.refl _ w).alloc (Nat.le_refl _) (.cells #[.int .i64 3, .int .i64 dy, .int .i64 m, .int .i64 k, .int .i64 s] 23))
  have HB := Lib.hid hB
  have HK := Lib.hid hK
  have hk5 : (k == 5) = false := by rw [beq_eq_false_iff_ne]; omega
  clear hB hK
  go_enter Tryz.func46, Tryz.ntmps46
  go_wp2_with fail
  refine (CD.out _ (HB.out.keep HA.out)).mono ?_
  rintro e w' ⟨rfl, n, rfl⟩
  go_wp2_with fail
  have HN := Lib.hid (below_drewN (HA.out.alloc (by simp) (.cells #[.int .i64 3, .int .i64 dy, .int .i64 (7 * k - 6)] 88)) n)
  refine (CO.out _ (HB.out.keep HN.out) (HK.out.keep HN.out)).mono ?_
  rintro e V ⟨rfl, hb⟩
  have HV := Lib.hid (HN.out.trans (hb.mono HN.out.size))
  clear hb
  go_wp2_with fail
  go_ret
  exact ⟨rfl, HV.out⟩
set_option maxHeartbeats 4000000 in
set_option maxRecDepth 100000 in
theorem day_l (dy m y s : Int) (d0 : 0 ≤ dy) (d1 : dy ≤ 6) (m0 : 1 ≤ m) (m1 : m ≤ 12) (h0 : -2000000000 ≤ y) (h1 : y ≤ 2000000000) (w : World) (hB : BeforeAt w) (hK : KindsAt w) :
    Calls Tryz.prog 46 #[.agg #[.int .i64 3, .int .i64 dy, .int .i64 m, .int .i64 5, .int .i64 s], .int .i64 y] w fun e w' => e = .returned (.int .i64 (lastD (dayOf y m (mlen y m)) dy)) ∧ Below w.heap.size w w' := by
  have CD := Lib.hid (days_any y 1 1 h0 h1 (by decide) (by decide) (by decide) (by have := (cum_top y 1 (by decide) (by decide)).2.2.1; omega))
  have CO := Lib.hid (on_last y m dy h0 h1 m0 m1 d0 d1)
  have HA := Lib.hid ((Below.refl _ w).alloc (Nat.le_refl _) (.cells #[.int .i64 3, .int .i64 dy, .int .i64 m, .int .i64 5, .int .i64 s] 23))
  have HB := Lib.hid hB
  have HK := Lib.hid hK
  clear hB hK
  go_enter Tryz.func46, Tryz.ntmps46
  go_wp2_with fail
  refine (CD.out _ (HB.out.keep HA.out)).mono ?_
  rintro e w' ⟨rfl, n, rfl⟩
  go_wp2_with fail
  have HN := Lib.hid (below_drewN (HA.out.alloc (by simp) (.cells #[.int .i64 2, .int .i64 dy, .int .i64 0] 88)) n)
  refine (CO.out _ (HB.out.keep HN.out) (HK.out.keep HN.out)).mono ?_
  rintro e V ⟨rfl, hb⟩
  have HV := Lib.hid (HN.out.trans (hb.mono HN.out.size))
  clear hb
  go_wp2_with fail
  go_ret
  exact ⟨rfl, HV.out⟩
end Go.Proofs.YtgllbagmmpicaaaGreatDoor.Px
