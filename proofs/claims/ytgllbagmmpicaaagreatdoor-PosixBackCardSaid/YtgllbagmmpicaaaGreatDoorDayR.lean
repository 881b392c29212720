/- Days of months, the reference: analemmaref02.Check and analemmaref02.On at the two kinds of days that POSIX TZ strings need. -/
import Derived.Test.YtgllbagmmpicaaaGreatDoorDayW
namespace Go.Proofs.YtgllbagmmpicaaaGreatDoor.Civ
open Go.RowKit

theorem flip {e : Ending} {v : Value} {w w' : World} (h : e = .returned v ∧ w = w') : e = .returned v ∧ w' = w := ⟨h.1, h.2.symm⟩
theorem ref2_inD (x a b : Int) (w : World) : Calls Tryz.prog 115 #[.int .i64 x, .int .i64 a, .int .i64 b] w fun e w' => e = .returned (.bool (decide (a ≤ x ∧ x ≤ b))) ∧ w' = w :=
  (ref2_in x a b _ rfl w).mono fun _ _ h => flip h
set_option maxHeartbeats 4000000 in
set_option maxRecDepth 100000 in
theorem ref2_check (kd wk dy : Int) (hk : kd = 3 ∧ 1 ≤ dy ∧ dy ≤ 31 ∨ kd = 2 ∧ dy = 0) (k0 : 0 ≤ wk) (k1 : wk ≤ 6) (w : World) :
    Calls Tryz.prog 116 #[.agg #[.int .i64 kd, .int .i64 wk, .int .i64 dy]] w fun e w' => e = .returned (.int .i64 0) ∧ Below w.heap.size w w' := by
  rcases hk with ⟨rfl, d0, d1⟩ | ⟨rfl, rfl⟩
  · go_enter Tryz.func116, Tryz.ntmps116
    go_wp2_with fail
    go_quiet ((go_at_call 115; exact Calls.quiet_of_same (ref2_inD _ _ _ _)))
    rw [show decide (0 ≤ wk ∧ wk ≤ 6) = true from decide_eq_true ⟨k0, k1⟩, show decide (1 ≤ dy ∧ dy ≤ 31) = true from decide_eq_true ⟨d0, d1⟩]
    go_wp2_with fail
    go_ret
    exact ⟨rfl, below_drewN ((Below.refl _ _).alloc (Nat.le_refl _) _) _⟩
  · go_enter Tryz.func116, Tryz.ntmps116
    go_wp2_with fail
    go_quiet ((go_at_call 115; exact Calls.quiet_of_same (ref2_inD _ _ _ _)))
    rw [show decide (0 ≤ wk ∧ wk ≤ 6) = true from decide_eq_true ⟨k0, k1⟩, show decide ((1 : Int) ≤ 0 ∧ (0 : Int) ≤ 31) = false from rfl]
    go_wp2_with fail
    go_ret
    exact ⟨rfl, below_drewN ((Below.refl _ _).alloc (Nat.le_refl _) _) _⟩
theorem fromD_is {x k wk : Int} (k0 : 0 ≤ wk) (k1 : wk ≤ 6) (h0 : x ≤ k) (h1 : k ≤ fromD x wk) : (wday k = wk → k = fromD x wk) ∧ (wday k ≠ wk → k + 1 ≤ fromD x wk) := by
  unfold fromD wday at *
  omega
theorem lastD_is {x k wk : Int} (k0 : 0 ≤ wk) (k1 : wk ≤ 6) (h0 : k ≤ x) (h1 : lastD x wk ≤ k) : (wday k = wk → k = lastD x wk) ∧ (wday k ≠ wk → lastD x wk ≤ k - 1) := by
  unfold lastD wday at *
  omega
set_option maxHeartbeats 4000000 in
set_option maxRecDepth 100000 in
theorem ref_on_from (y m wk dy : Int) (h0 : -2000000000 ≤ y) (h1 : y ≤ 2000000000) (m0 : 1 ≤ m) (m1 : m ≤ 12) (k0 : 0 ≤ wk) (k1 : wk ≤ 6) (d0 : 1 ≤ dy) (d1 : dy ≤ 28) (w : World) :
    Calls Tryz.prog 85 #[.int .i64 y, .int .i64 m, .agg #[.int .i64 3, .int .i64 wk, .int .i64 dy]] w fun e w' => e = .returned (.tuple #[.int .i64 (fromD (dayOf y m dy) wk), .int .i64 0]) ∧ Below w.heap.size w w' := by
  obtain ⟨u0, u1, u2, u3⟩ := cum_top y m m0 m1
  obtain ⟨v0, v1⟩ := dayOf_bd (d := 1) h0 h1 m0 m1 (by omega) (by omega)
  have CI := Lib.hid (ref2_in m 1 12 true (decide_eq_true ⟨m0, m1⟩))
  have CD := Lib.hid (ref_days y m 1 h0 h1 m0 m1 (by omega) (by omega))
  have CC := Lib.hid (ref2_check 3 wk dy (.inl ⟨rfl, d0, by omega⟩) k0 k1)
  have CL := Lib.hid (fun w => (ref_len y m m0 m1 w).mono fun _ _ h => flip h)
  have hdl : ¬ mlen y m < dy := by omega
  have HE := Lib.hid (dayOf_first y m dy)
  have HA := Lib.hid ((Below.refl _ w).alloc (Nat.le_refl _) (.cells #[.int .i64 3, .int .i64 wk, .int .i64 dy] 88))
  obtain ⟨X, hX⟩ : ∃ X, dayOf y m dy = X := ⟨_, rfl⟩
  have hXb : -2000000000000 ≤ X ∧ X ≤ 2000000000000 := by
    rw [← hX]; have := HE.out; omega
  obtain ⟨hX0, hX1⟩ := hXb
  have HE' := Lib.hid (show dayOf y m 1 + dy - 1 = X by rw [← hX, ← HE.out])
  rw [hX]
  clear hX HE
  go_enter Tryz.func85, Tryz.ntmps85
  go_wp2_with fail
  refine (CI.out _).mono ?_
  rintro e w' ⟨rfl, rfl⟩
  go_wp2_with fail
  refine (CC.out _).mono ?_
  rintro e V ⟨rfl, hb⟩
  have x0 : V.cell? ⟨w.heap.size, 0, none⟩ = some (.int .i64 3) := box_cell (n := 0) hb 0
  have x1 : V.cell? ⟨w.heap.size, 1, none⟩ = some (.int .i64 wk) := box_cell (n := 0) hb 1
  have x2 : V.cell? ⟨w.heap.size, 2, none⟩ = some (.int .i64 dy) := box_cell (n := 0) hb 2
  have HV := Lib.hid (over_box (n := 0) hb)
  clear hb
  go_wp2_with fail
  go_quiet ((go_at_call 113; exact Calls.quiet_of_same (CL.out _)))
  go_wp2_with fail
  refine (CD.out _).mono ?_
  rintro e w' ⟨rfl, rfl⟩
  go_wp2_with fail
  go_loopw [10] (fun x wr => ∃ k : Int, X ≤ k ∧ k ≤ fromD X wk ∧ x = .int .i64 k ∧ Below V.heap.size V wr) (fun x _ => (fromD X wk - intOf x).toNat)
  case atStart => exact ⟨dayOf y m 1 + dy - 1, by rw [HE'.out]; omega, by rw [HE'.out]; unfold fromD; omega, rfl, below_drewN (Below.refl _ _) _⟩
  case round =>
    obtain ⟨k, q0, q1, rfl, hB⟩ := hrel
    have HB := Lib.hid hB
    have x1' := keep_cell x1 hB
    clear hB
    have CW := Lib.hid (fun w => (ref_wday k w).mono fun _ _ h => flip h)
    obtain ⟨r0, r1⟩ := fromD_is k0 k1 q0 q1
    obtain ⟨b0, b1⟩ : X ≤ fromD X wk ∧ fromD X wk ≤ X + 6 := by unfold fromD; omega
    have R0 := Lib.hid r0
    have R1 := Lib.hid r1
    clear r0 r1
    by_cases h : wday k = wk
    · have tw : (wday k != wk) = false := by rw [bne_eq_false_iff_eq]; exact h
      have hk := R0.out h
      have HK := Lib.hid hk
      clear hk h
      go_wp2_with fail
      go_quiet ((go_at_call 117; exact Calls.quiet_of_same (CW.out _)))
      go_wp2_with fail
      go_ret2
      exact ⟨ret2 HK.out rfl, HV.out.trans ((below_drewN HB.out _).mono HV.out.size)⟩
    · have tw : (wday k != wk) = true := by rw [bne_iff_ne]; exact h
      have hk := R1.out h
      have HK := Lib.hid hk
      clear hk h
      go_wp2_with fail
      go_quiet ((go_at_call 117; exact Calls.quiet_of_same (CW.out _)))
      go_wp2_with fail
      go_roundw
      case rel => exact ⟨k + 1, by have := HK.out; omega, by have := HK.out; omega, rfl, below_drewN HB.out _⟩
      case measure => have := HK.out; simp [intOf]; omega
set_option maxHeartbeats 4000000 in
set_option maxRecDepth 100000 in
theorem ref_on_last (y m wk : Int) (h0 : -2000000000 ≤ y) (h1 : y ≤ 2000000000) (m0 : 1 ≤ m) (m1 : m ≤ 12) (k0 : 0 ≤ wk) (k1 : wk ≤ 6) (w : World) :
    Calls Tryz.prog 85 #[.int .i64 y, .int .i64 m, .agg #[.int .i64 2, .int .i64 wk, .int .i64 0]] w fun e w' => e = .returned (.tuple #[.int .i64 (lastD (dayOf y m (mlen y m)) wk), .int .i64 0]) ∧ Below w.heap.size w w' := by
  obtain ⟨u0, u1, u2, u3⟩ := cum_top y m m0 m1
  obtain ⟨v0, v1⟩ := dayOf_bd (d := 1) h0 h1 m0 m1 (by omega) (by omega)
  have CI := Lib.hid (ref2_in m 1 12 true (decide_eq_true ⟨m0, m1⟩))
  have CD := Lib.hid (ref_days y m 1 h0 h1 m0 m1 (by omega) (by omega))
  have CC := Lib.hid (ref2_check 2 wk 0 (.inr ⟨rfl, rfl⟩) k0 k1)
  have CL := Lib.hid (fun w => (ref_len y m m0 m1 w).mono fun _ _ h => flip h)
  have hdl : ¬ mlen y m < 0 := by omega
  have HE := Lib.hid (dayOf_first y m (mlen y m))
  have HA := Lib.hid ((Below.refl _ w).alloc (Nat.le_refl _) (.cells #[.int .i64 2, .int .i64 wk, .int .i64 0] 88))
  obtain ⟨X, hX⟩ : ∃ X, dayOf y m (mlen y m) = X := ⟨_, rfl⟩
  have hXb : -2000000000000 ≤ X ∧ X ≤ 2000000000000 := by
    rw [← hX]; have := HE.out; omega
  obtain ⟨hX0, hX1⟩ := hXb
  have HE' := Lib.hid (show dayOf y m 1 + mlen y m - 1 = X by rw [← hX, ← HE.out])
  rw [hX]
  clear hX HE
  go_enter Tryz.func85, Tryz.ntmps85
  go_wp2_with fail
  refine (CI.out _).mono ?_
  rintro e w' ⟨rfl, rfl⟩
  go_wp2_with fail
  refine (CC.out _).mono ?_
  rintro e V ⟨rfl, hb⟩
  have x0 : V.cell? ⟨w.heap.size, 0, none⟩ = some (.int .i64 2) := box_cell (n := 0) hb 0
  have x1 : V.cell? ⟨w.heap.size, 1, none⟩ = some (.int .i64 wk) := box_cell (n := 0) hb 1
  have x2 : V.cell? ⟨w.heap.size, 2, none⟩ = some (.int .i64 0) := box_cell (n := 0) hb 2
  have HV := Lib.hid (over_box (n := 0) hb)
  clear hb
  go_wp2_with fail
  go_quiet ((go_at_call 113; exact Calls.quiet_of_same (CL.out _)))
  go_wp2_with fail
  refine (CD.out _).mono ?_
  rintro e w' ⟨rfl, rfl⟩
  go_wp2_with fail
  refine (CL.out _).mono ?_
  rintro e w' ⟨rfl, rfl⟩
  go_wp2_with fail
  go_loopw [11] (fun x wr => ∃ k : Int, lastD X wk ≤ k ∧ k ≤ X ∧ x = .int .i64 k ∧ Below V.heap.size V wr) (fun x _ => (intOf x - lastD X wk).toNat)
  case atStart => exact ⟨dayOf y m 1 + mlen y m - 1, by rw [HE'.out]; unfold lastD; omega, by rw [HE'.out]; omega, rfl, below_drewN (Below.refl _ _) _⟩
  case round =>
    obtain ⟨k, q0, q1, rfl, hB⟩ := hrel
    have HB := Lib.hid hB
    have x1' := keep_cell x1 hB
    clear hB
    have CW := Lib.hid (fun w => (ref_wday k w).mono fun _ _ h => flip h)
    obtain ⟨r0, r1⟩ := lastD_is k0 k1 q1 q0
    obtain ⟨b0, b1⟩ : X - 6 ≤ lastD X wk ∧ lastD X wk ≤ X := by unfold lastD; omega
    have R0 := Lib.hid r0
    have R1 := Lib.hid r1
    clear r0 r1
    by_cases h : wday k = wk
    · have tw : (wday k != wk) = false := by rw [bne_eq_false_iff_eq]; exact h
      have hk := R0.out h
      have HK := Lib.hid hk
      clear hk h
      go_wp2_with fail
      go_quiet ((go_at_call 117; exact Calls.quiet_of_same (CW.out _)))
      go_wp2_with fail
      go_ret2
      exact ⟨ret2 HK.out rfl, HV.out.trans ((below_drewN HB.out _).mono HV.out.size)⟩
    · have tw : (wday k != wk) = true := by rw [bne_iff_ne]; exact h
      have hk := R1.out h
      have HK := Lib.hid hk
      clear hk h
      go_wp2_with fail
      go_quiet ((go_at_call 117; exact Calls.quiet_of_same (CW.out _)))
      go_wp2_with fail
      go_roundw
      case rel => exact ⟨k - 1, by have := HK.out; omega, by have := HK.out; omega, rfl, below_drewN HB.out _⟩
      case measure => have := HK.out; simp [intOf]; omega
end Go.Proofs.YtgllbagmmpicaaaGreatDoor.Civ
