/- Days of months: dayform.On and analemmaref02.On at the two kinds of days that POSIX TZ strings need. Days of months, the reference: analemmaref02.Check and analemmaref02.On at the two kinds of days that POSIX TZ strings need. -/
import Derived.Test.YtkpmmabdpeobaaaGreatDoorSU1
import Derived.Laws.EntriesVeiled
namespace Go.Proofs.YtkpmmabdpeobaaaGreatDoor.Civ
open Go.RowKit
def KindsAt (w : World) : Prop := w.cell? ⟨3, 6, none⟩ = some (.bool true) ∧ w.cell? ⟨3, 7, none⟩ = some (.bool false) ∧ w.cell? ⟨3, 8, none⟩ = some (.func (.func 265) #[] #[]) ∧
 w.cell? ⟨3, 9, none⟩ = some (.bool true) ∧ w.cell? ⟨3, 10, none⟩ = some (.bool true) ∧ w.cell? ⟨3, 11, none⟩ = some (.func (.func 267) #[] #[])
theorem keep_cell {w w' : World} {a : Addr} {v : Value} (h : w.cell? a = some v) (hB : Below w.heap.size w w') : w'.cell? a = some v := (hB.cell (p := a) (block_lt_of_cell h)).trans h
theorem KindsAt.keep {w w' : World} (h : KindsAt w) (hB : Below w.heap.size w w') : KindsAt w' :=
 ⟨keep_cell h.1 hB, keep_cell h.2.1 hB, keep_cell h.2.2.1 hB, keep_cell h.2.2.2.1 hB, keep_cell h.2.2.2.2.1 hB, keep_cell h.2.2.2.2.2 hB⟩
theorem over_box {w V : World} {o : Obj} {n : Nat} (hb : Below ((w.alloc o).drewN n).heap.size ((w.alloc o).drewN n) V) : Below w.heap.size w V := by
 have h1 : Below (w.alloc o).heap.size (w.alloc o) V := ⟨hb.os, hb.tape, hb.output, hb.size, hb.block⟩
 exact ((Below.refl _ w).alloc (Nat.le_refl _) o).trans (h1.mono (by simp))
theorem box_cell {w V : World} {cs : Array Value} {T n : Nat} (hb : Below ((w.alloc (.cells cs T)).drewN n).heap.size ((w.alloc (.cells cs T)).drewN n) V) (i : Nat) : V.cell? ⟨w.heap.size, i, none⟩ = cs[i]? := by
 have h1 : Below (w.alloc (.cells cs T)).heap.size (w.alloc (.cells cs T)) V := ⟨hb.os, hb.tape, hb.output, hb.size, hb.block⟩
 exact (h1.cell (p := ⟨w.heap.size, i, none⟩) (by simp)).trans (World.cell?_alloc_at _ _ _ _ rfl)
set_option maxHeartbeats 4000000 in
set_option maxRecDepth 100000 in
theorem check_from (wk dy : Int) (k0 : 0 ≤ wk) (k1 : wk ≤ 6) (d0 : 1 ≤ dy) (d1 : dy ≤ 31) (w : World) (hK : KindsAt w) :
 Calls Tryz.prog 215 #[.agg #[.int .i64 3, .int .i64 wk, .int .i64 dy]] w fun e w' => e = .returned (.int .i64 0) ∧ Below w.heap.size w w' := by
 obtain ⟨c6, c7, c8, c9, c10, c11⟩ := hK
 have td : (dy == 0) = false := by rw [beq_eq_false_iff_ne]; omega
 have hz : 3 < w.heap.size := block_lt_of_cell c9
 clear c6 c7 c8
 by_cases hw : wk = 0
 · subst hw
   go_enter Tryz.func215, Tryz.ntmps215
   go_wp2_with fail
   go_ret
   exact ⟨rfl, ((Below.refl _ _).alloc (Nat.le_refl _) _).alloc (by simp) _⟩
 · have tw : (wk != 0) = true := by rw [bne_iff_ne]; exact hw
   clear hw
   go_enter Tryz.func215, Tryz.ntmps215
   go_wp2_with fail
   go_ret
   exact ⟨rfl, ((Below.refl _ _).alloc (Nat.le_refl _) _).alloc (by simp) _⟩
set_option maxHeartbeats 4000000 in
set_option maxRecDepth 100000 in
theorem check_last (wk : Int) (k0 : 0 ≤ wk) (k1 : wk ≤ 6) (w : World) (hK : KindsAt w) :
 Calls Tryz.prog 215 #[.agg #[.int .i64 2, .int .i64 wk, .int .i64 0]] w fun e w' => e = .returned (.int .i64 0) ∧ Below w.heap.size w w' := by
 obtain ⟨c6, c7, c8, c9, c10, c11⟩ := hK
 have hz : 3 < w.heap.size := block_lt_of_cell c9
 clear c9 c10 c11
 by_cases hw : wk = 0
 · subst hw
   go_enter Tryz.func215, Tryz.ntmps215
   go_wp2_with fail
   go_ret
   exact ⟨rfl, ((Below.refl _ _).alloc (Nat.le_refl _) _).alloc (by simp) _⟩
 · have tw : (wk != 0) = true := by rw [bne_iff_ne]; exact hw
   clear hw
   go_enter Tryz.func215, Tryz.ntmps215
   go_wp2_with fail
   go_ret
   exact ⟨rfl, ((Below.refl _ _).alloc (Nat.le_refl _) _).alloc (by simp) _⟩
theorem find_from (x l wk dy : Int) (h0 : -2000000000000 ≤ x) (h1 : x ≤ 2000000000000) (k0 : 0 ≤ wk) (k1 : wk ≤ 6) (d0 : 1 ≤ dy) (d1 : dy ≤ 31) (w : World) :
 Calls Tryz.prog 267 #[.int .i64 x, .int .i64 l, .agg #[.int .i64 3, .int .i64 wk, .int .i64 dy]] w fun e w' => e = .returned (.int .i64 (fromD (x + dy - 1) wk)) ∧ Below w.heap.size w w' := by
 have C := Lib.hid (behind_any (x + dy - 1) wk (by omega) (by omega) k0 k1)
 go_enter Tryz.func267, Tryz.ntmps267
 go_wp2_with fail
 refine (C.out _).mono ?_
 rintro e w' ⟨rfl, n, rfl⟩
 go_wp2_with fail
 go_ret
 exact ⟨rfl, below_drewN ((Below.refl _ _).alloc (Nat.le_refl _) _) n⟩
theorem find_last (x l wk : Int) (h0 : -2000000000000 ≤ l) (h1 : l ≤ 2000000000000) (k0 : 0 ≤ wk) (k1 : wk ≤ 6) (w : World) :
 Calls Tryz.prog 265 #[.int .i64 x, .int .i64 l, .agg #[.int .i64 2, .int .i64 wk, .int .i64 0]] w fun e w' => e = .returned (.int .i64 (lastD l wk)) ∧ Below w.heap.size w w' := by
 have C := Lib.hid (before_any l wk (by omega) (by omega) k0 k1)
 go_enter Tryz.func265, Tryz.ntmps265
 go_wp2_with fail
 refine (C.out _).mono ?_
 rintro e w' ⟨rfl, n, rfl⟩
 go_wp2_with fail
 go_ret
 exact ⟨rfl, below_drewN ((Below.refl _ _).alloc (Nat.le_refl _) _) n⟩
theorem dayOf_bd {y m d : Int} (h0 : -2000000000 ≤ y) (h1 : y ≤ 2000000000) (m0 : 1 ≤ m) (m1 : m ≤ 12) (d0 : 0 ≤ d) (d1 : d ≤ 31) : -1000000000000 ≤ dayOf y m d ∧ dayOf y m d ≤ 1000000000000 := by
 have := cum_top y m m0 m1
 have := size_ge y
 unfold dayOf jan
 omega
theorem dayOf_first (y m d : Int) : dayOf y m 1 + d - 1 = dayOf y m d := by unfold dayOf; omega
set_option maxHeartbeats 4000000 in
set_option maxRecDepth 100000 in
theorem on_from (y m wk dy : Int) (h0 : -2000000000 ≤ y) (h1 : y ≤ 2000000000) (m0 : 1 ≤ m) (m1 : m ≤ 12) (k0 : 0 ≤ wk) (k1 : wk ≤ 6) (d0 : 1 ≤ dy) (d1 : dy ≤ 28) (w : World) (hB : BeforeAt w) (hK : KindsAt w) :
 Calls Tryz.prog 193 #[.int .i64 y, .int .i64 m, .agg #[.int .i64 3, .int .i64 wk, .int .i64 dy]] w fun e w' => e = .returned (.tuple #[.int .i64 (fromD (dayOf y m dy) wk), .int .i64 0]) ∧ Below w.heap.size w w' := by
 obtain ⟨u0, u1, u2, u3⟩ := cum_top y m m0 m1
 obtain ⟨v0, v1⟩ := dayOf_bd (d := 1) h0 h1 m0 m1 (by omega) (by omega)
 have CD := Lib.hid (days_any y m 1 h0 h1 m0 m1 (by omega) (by omega))
 have CC := Lib.hid (check_from wk dy k0 k1 d0 (by omega))
 have CL := Lib.hid (len_any y m m0 m1)
 have CF := Lib.hid (fun l => find_from (dayOf y m 1) l wk dy (by omega) (by omega) k0 k1 d0 (by omega))
 rw [dayOf_first] at CF
 have hz : 3 < w.heap.size := block_lt_of_cell hK.1
 have HB := Lib.hid hB
 have HK := Lib.hid hK
 have hdl : ¬ mlen y m < dy := by omega
 have HA := Lib.hid ((Below.refl _ w).alloc (Nat.le_refl _) (.cells #[.int .i64 3, .int .i64 wk, .int .i64 dy] 180))
 clear hB hK
 go_enter Tryz.func193, Tryz.ntmps193
 go_wp2_with fail
 refine (CD.out _ (HB.out.keep HA.out)).mono ?_
 rintro e w' ⟨rfl, n, rfl⟩
 go_wp2_with fail
 refine (CC.out _ (HK.out.keep (below_drewN HA.out n))).mono ?_
 rintro e V ⟨rfl, hb⟩
 have x0 : V.cell? ⟨w.heap.size, 0, none⟩ = some (.int .i64 3) := box_cell hb 0
 have x1 : V.cell? ⟨w.heap.size, 1, none⟩ = some (.int .i64 wk) := box_cell hb 1
 have x2 : V.cell? ⟨w.heap.size, 2, none⟩ = some (.int .i64 dy) := box_cell hb 2
 have HV := Lib.hid (over_box hb)
 have hKV := HK.out.keep HV.out
 obtain ⟨_, _, _, _, _, c11⟩ := hKV
 clear hb
 go_wp2_with fail
 refine (CL.out _).mono ?_
 rintro e w' ⟨rfl, rfl⟩
 go_wp2_with fail
 go_region_with (go_at_call 267; refine (CF.out _ _).mono ?_; rintro e V2 ⟨rfl, k2⟩)
 all_goals
  go_wp2_with fail
  go_ret2
  exact ⟨rfl, HV.out.trans ((show Below V.heap.size V _ from ⟨k2.os, k2.tape, k2.output, k2.size, k2.block⟩).mono HV.out.size)⟩
set_option maxHeartbeats 4000000 in
set_option maxRecDepth 100000 in
theorem on_last (y m wk : Int) (h0 : -2000000000 ≤ y) (h1 : y ≤ 2000000000) (m0 : 1 ≤ m) (m1 : m ≤ 12) (k0 : 0 ≤ wk) (k1 : wk ≤ 6) (w : World) (hB : BeforeAt w) (hK : KindsAt w) :
 Calls Tryz.prog 193 #[.int .i64 y, .int .i64 m, .agg #[.int .i64 2, .int .i64 wk, .int .i64 0]] w fun e w' => e = .returned (.tuple #[.int .i64 (lastD (dayOf y m (mlen y m)) wk), .int .i64 0]) ∧ Below w.heap.size w w' := by
 obtain ⟨u0, u1, u2, u3⟩ := cum_top y m m0 m1
 obtain ⟨v0, v1⟩ := dayOf_bd (d := 1) h0 h1 m0 m1 (by omega) (by omega)
 have CD := Lib.hid (days_any y m 1 h0 h1 m0 m1 (by omega) (by omega))
 have CC := Lib.hid (check_last wk k0 k1)
 have CL := Lib.hid (len_any y m m0 m1)
 have CF := Lib.hid (fun x => find_last x (dayOf y m 1 + mlen y m - 1) wk (by omega) (by omega) k0 k1)
 have hz : 3 < w.heap.size := block_lt_of_cell hK.1
 have HB := Lib.hid hB
 have HK := Lib.hid hK
 have hdl : ¬ mlen y m < 0 := by omega
 have HE := Lib.hid (dayOf_first y m (mlen y m))
 have HA := Lib.hid ((Below.refl _ w).alloc (Nat.le_refl _) (.cells #[.int .i64 2, .int .i64 wk, .int .i64 0] 180))
 clear hB hK
 go_enter Tryz.func193, Tryz.ntmps193
 go_wp2_with fail
 refine (CD.out _ (HB.out.keep HA.out)).mono ?_
 rintro e w' ⟨rfl, n, rfl⟩
 go_wp2_with fail
 refine (CC.out _ (HK.out.keep (below_drewN HA.out n))).mono ?_
 rintro e V ⟨rfl, hb⟩
 have x0 : V.cell? ⟨w.heap.size, 0, none⟩ = some (.int .i64 2) := box_cell hb 0
 have x1 : V.cell? ⟨w.heap.size, 1, none⟩ = some (.int .i64 wk) := box_cell hb 1
 have x2 : V.cell? ⟨w.heap.size, 2, none⟩ = some (.int .i64 0) := box_cell hb 2
 have HV := Lib.hid (over_box hb)
 have hKV := HK.out.keep HV.out
 obtain ⟨_, _, c8, _, _, _⟩ := hKV
 clear hb
 go_wp2_with fail
 refine (CL.out _).mono ?_
 rintro e w' ⟨rfl, rfl⟩
 go_wp2_with fail
 have w1 : IntKind.i64.wrap (dayOf y m 1 + mlen y m) = dayOf y m 1 + mlen y m := IntWalk.i64_in _ (by omega)
 have w2 : IntKind.i64.wrap (dayOf y m 1 + mlen y m - 1) = dayOf y m 1 + mlen y m - 1 := IntWalk.i64_in _ (by omega)
 go_region_with (go_at_call 265; refine (CF.out _ _).mono ?_; rintro e V2 ⟨rfl, k2⟩)
 all_goals
  clear w1 w2
  go_wp2_with fail
  go_ret2
  exact ⟨ret2 (by rw [HE.out]) rfl, HV.out.trans ((show Below V.heap.size V _ from ⟨k2.os, k2.tape, k2.output, k2.size, k2.block⟩).mono HV.out.size)⟩
end Go.Proofs.YtkpmmabdpeobaaaGreatDoor.Civ
namespace Go.Proofs.YtkpmmabdpeobaaaGreatDoor.Civ
open Go.RowKit
theorem flip {e : Ending} {v : Value} {w w' : World} (h : e = .returned v ∧ w = w') : e = .returned v ∧ w' = w := ⟨h.1, h.2.symm⟩
theorem ref2_inD (x a b : Int) (w : World) : Calls Tryz.prog 172 #[.int .i64 x, .int .i64 a, .int .i64 b] w fun e w' => e = .returned (.bool (decide (a ≤ x ∧ x ≤ b))) ∧ w' = w :=
 (ref2_in x a b _ rfl w).mono fun _ _ h => flip h
set_option maxHeartbeats 4000000 in
set_option maxRecDepth 100000 in
theorem ref2_check (kd wk dy : Int) (hk : kd = 3 ∧ 1 ≤ dy ∧ dy ≤ 31 ∨ kd = 2 ∧ dy = 0) (k0 : 0 ≤ wk) (k1 : wk ≤ 6) (w : World) :
 Calls Tryz.prog 173 #[.agg #[.int .i64 kd, .int .i64 wk, .int .i64 dy]] w fun e w' => e = .returned (.int .i64 0) ∧ Below w.heap.size w w' := by
 rcases hk with ⟨rfl, d0, d1⟩ | ⟨rfl, rfl⟩
 · go_enter Tryz.func173, Tryz.ntmps173
   go_wp2_with fail
   go_quiet ((go_at_call 172; exact Calls.quiet_of_same (ref2_inD _ _ _ _)))
   rw [show decide (0 ≤ wk ∧ wk ≤ 6) = true from decide_eq_true ⟨k0, k1⟩, show decide (1 ≤ dy ∧ dy ≤ 31) = true from decide_eq_true ⟨d0, d1⟩]
   go_wp2_with fail
   go_ret
   exact ⟨rfl, below_drewN ((Below.refl _ _).alloc (Nat.le_refl _) _) _⟩
 · go_enter Tryz.func173, Tryz.ntmps173
   go_wp2_with fail
   go_quiet ((go_at_call 172; exact Calls.quiet_of_same (ref2_inD _ _ _ _)))
   rw [show decide (0 ≤ wk ∧ wk ≤ 6) = true from decide_eq_true ⟨k0, k1⟩, show decide ((1 : Int) ≤ 0 ∧ (0 : Int) ≤ 31) = false from rfl]
   go_wp2_with fail
   go_ret
   exact ⟨rfl, below_drewN ((Below.refl _ _).alloc (Nat.le_refl _) _) _⟩
theorem fromD_is {x k wk : Int} (k0 : 0 ≤ wk) (k1 : wk ≤ 6) (h0 : x ≤ k) (h1 : k ≤ fromD x wk) : (wday k = wk → k = fromD x wk) ∧ (wday k ≠ wk → k + 1 ≤ fromD x wk) := by
 unfold fromD wday at *
 omega
theorem lastD_is {x k wk : Int} (k0 : 0 ≤ wk) (k1 : wk ≤ 6) (h0 : k ≤ x) (h1 : lastD x wk ≤ k) : (wday k = wk → k = lastD x wk) ∧ (wday k ≠ wk → lastD x wk ≤ k - 1) := by
 unfold lastD wday at *
 omega
set_option maxHeartbeats 4000000 in
set_option maxRecDepth 100000 in
theorem ref_on_from (y m wk dy : Int) (h0 : -2000000000 ≤ y) (h1 : y ≤ 2000000000) (m0 : 1 ≤ m) (m1 : m ≤ 12) (k0 : 0 ≤ wk) (k1 : wk ≤ 6) (d0 : 1 ≤ dy) (d1 : dy ≤ 28) (w : World) :
 Calls Tryz.prog 139 #[.int .i64 y, .int .i64 m, .agg #[.int .i64 3, .int .i64 wk, .int .i64 dy]] w fun e w' => e = .returned (.tuple #[.int .i64 (fromD (dayOf y m dy) wk), .int .i64 0]) ∧ Below w.heap.size w w' := by
 obtain ⟨u0, u1, u2, u3⟩ := cum_top y m m0 m1
 obtain ⟨v0, v1⟩ := dayOf_bd (d := 1) h0 h1 m0 m1 (by omega) (by omega)
 have CI := Lib.hid (ref2_in m 1 12 true (decide_eq_true ⟨m0, m1⟩))
 have CD := Lib.hid (ref_days y m 1 h0 h1 m0 m1 (by omega) (by omega))
 have CC := Lib.hid (ref2_check 3 wk dy (.inl ⟨rfl, d0, by omega⟩) k0 k1)
 have CL := Lib.hid (fun w => (ref_len y m m0 m1 w).mono fun _ _ h => flip h)
 have hdl : ¬ mlen y m < dy := by omega
 have HE := Lib.hid (dayOf_first y m dy)
 have HA := Lib.hid ((Below.refl _ w).alloc (Nat.le_refl _) (.cells #[.int .i64 3, .int .i64 wk, .int .i64 dy] 180))
 obtain ⟨X, hX⟩ : ∃ X, dayOf y m dy = X := ⟨_, rfl⟩
 have hXb : -2000000000000 ≤ X ∧ X ≤ 2000000000000 := by
  rw [← hX]; have := HE.out; omega
 obtain ⟨hX0, hX1⟩ := hXb
 have HE' := Lib.hid (show dayOf y m 1 + dy - 1 = X by rw [← hX, ← HE.out])
 rw [hX]
 clear hX HE
 go_enter Tryz.func139, Tryz.ntmps139
 go_wp2_with fail
 refine (CI.out _).mono ?_
 rintro e w' ⟨rfl, rfl⟩
 go_wp2_with fail
 refine (CC.out _).mono ?_
 rintro e V ⟨rfl, hb⟩
 have x0 : V.cell? ⟨w.heap.size, 0, none⟩ = some (.int .i64 3) := box_cell (n := 0) hb 0
 have x1 : V.cell? ⟨w.heap.size, 1, none⟩ = some (.int .i64 wk) := box_cell (n := 0) hb 1
 have x2 : V.cell? ⟨w.heap.size, 2, none⟩ = some (.int .i64 dy) := box_cell (n := 0) hb 2
 have HV := Lib.hid (over_box (n := 0) hb)
 clear hb
 go_wp2_with fail
 go_quiet ((go_at_call 170; exact Calls.quiet_of_same (CL.out _)))
 go_wp2_with fail
 refine (CD.out _).mono ?_
 rintro e w' ⟨rfl, rfl⟩
 go_wp2_with fail
 go_loopw [10] (fun x wr => ∃ k : Int, X ≤ k ∧ k ≤ fromD X wk ∧ x = .int .i64 k ∧ Below V.heap.size V wr) (fun x _ => (fromD X wk - intOf x).toNat)
 case atStart => exact ⟨dayOf y m 1 + dy - 1, by rw [HE'.out]; omega, by rw [HE'.out]; unfold fromD; omega, rfl, below_drewN (Below.refl _ _) _⟩
 case round =>
  obtain ⟨k, q0, q1, rfl, hB⟩ := hrel
  have HB := Lib.hid hB
  have x1' := keep_cell x1 hB
  clear hB
  have CW := Lib.hid (fun w => (ref_wday k w).mono fun _ _ h => flip h)
  obtain ⟨r0, r1⟩ := fromD_is k0 k1 q0 q1
  obtain ⟨b0, b1⟩ : X ≤ fromD X wk ∧ fromD X wk ≤ X + 6 := by unfold fromD; omega
  have R0 := Lib.hid r0
  have R1 := Lib.hid r1
  clear r0 r1
  by_cases h : wday k = wk
  · have tw : (wday k != wk) = false := by rw [bne_eq_false_iff_eq]; exact h
    have hk := R0.out h
    have HK := Lib.hid hk
    clear hk h
    go_wp2_with fail
    go_quiet ((go_at_call 174; exact Calls.quiet_of_same (CW.out _)))
    go_wp2_with fail
    go_ret2
    exact ⟨ret2 HK.out rfl, HV.out.trans ((below_drewN HB.out _).mono HV.out.size)⟩
  · have tw : (wday k != wk) = true := by rw [bne_iff_ne]; exact h
    have hk := R1.out h
    have HK := Lib.hid hk
    clear hk h
    go_wp2_with fail
    go_quiet ((go_at_call 174; exact Calls.quiet_of_same (CW.out _)))
    go_wp2_with fail
    go_roundw
    case rel => exact ⟨k + 1, by have := HK.out; omega, by have := HK.out; omega, rfl, below_drewN HB.out _⟩
    case measure => have := HK.out; simp [intOf]; omega
set_option maxHeartbeats 4000000 in
set_option maxRecDepth 100000 in
theorem ref_on_last (y m wk : Int) (h0 : -2000000000 ≤ y) (h1 : y ≤ 2000000000) (m0 : 1 ≤ m) (m1 : m ≤ 12) (k0 : 0 ≤ wk) (k1 : wk ≤ 6) (w : World) :
 Calls Tryz.prog 139 #[.int .i64 y, .int .i64 m, .agg #[.int .i64 2, .int .i64 wk, .int .i64 0]] w fun e w' => e = .returned (.tuple #[.int .i64 (lastD (dayOf y m (mlen y m)) wk), .int .i64 0]) ∧ Below w.heap.size w w' := by
 obtain ⟨u0, u1, u2, u3⟩ := cum_top y m m0 m1
 obtain ⟨v0, v1⟩ := dayOf_bd (d := 1) h0 h1 m0 m1 (by omega) (by omega)
 have CI := Lib.hid (ref2_in m 1 12 true (decide_eq_true ⟨m0, m1⟩))
 have CD := Lib.hid (ref_days y m 1 h0 h1 m0 m1 (by omega) (by omega))
 have CC := Lib.hid (ref2_check 2 wk 0 (.inr ⟨rfl, rfl⟩) k0 k1)
 have CL := Lib.hid (fun w => (ref_len y m m0 m1 w).mono fun _ _ h => flip h)
 have hdl : ¬ mlen y m < 0 := by omega
 have HE := Lib.hid (dayOf_first y m (mlen y m))
 have HA := Lib.hid ((Below.refl _ w).alloc (Nat.le_refl _) (.cells #[.int .i64 2, .int .i64 wk, .int .i64 0] 180))
 obtain ⟨X, hX⟩ : ∃ X, dayOf y m (mlen y m) = X := ⟨_, rfl⟩
 have hXb : -2000000000000 ≤ X ∧ X ≤ 2000000000000 := by
  rw [← hX]; have := HE.out; omega
 obtain ⟨hX0, hX1⟩ := hXb
 have HE' := Lib.hid (show dayOf y m 1 + mlen y m - 1 = X by rw [← hX, ← HE.out])
 rw [hX]
 clear hX HE
 go_enter Tryz.func139, Tryz.ntmps139
 go_wp2_with fail
 refine (CI.out _).mono ?_
 rintro e w' ⟨rfl, rfl⟩
 go_wp2_with fail
 refine (CC.out _).mono ?_
 rintro e V ⟨rfl, hb⟩
 have x0 : V.cell? ⟨w.heap.size, 0, none⟩ = some (.int .i64 2) := box_cell (n := 0) hb 0
 have x1 : V.cell? ⟨w.heap.size, 1, none⟩ = some (.int .i64 wk) := box_cell (n := 0) hb 1
 have x2 : V.cell? ⟨w.heap.size, 2, none⟩ = some (.int .i64 0) := box_cell (n := 0) hb 2
 have HV := Lib.hid (over_box (n := 0) hb)
 clear hb
 go_wp2_with fail
 go_quiet ((go_at_call 170; exact Calls.quiet_of_same (CL.out _)))
 go_wp2_with fail
 refine (CD.out _).mono ?_
 rintro e w' ⟨rfl, rfl⟩
 go_wp2_with fail
 refine (CL.out _).mono ?_
 rintro e w' ⟨rfl, rfl⟩
 go_wp2_with fail
 go_loopw [11] (fun x wr => ∃ k : Int, lastD X wk ≤ k ∧ k ≤ X ∧ x = .int .i64 k ∧ Below V.heap.size V wr) (fun x _ => (intOf x - lastD X wk).toNat)
 case atStart => exact ⟨dayOf y m 1 + mlen y m - 1, by rw [HE'.out]; unfold lastD; omega, by rw [HE'.out]; omega, rfl, below_drewN (Below.refl _ _) _⟩
 case round =>
  obtain ⟨k, q0, q1, rfl, hB⟩ := hrel
  have HB := Lib.hid hB
  have x1' := keep_cell x1 hB
  clear hB
  have CW := Lib.hid (fun w => (ref_wday k w).mono fun _ _ h => flip h)
  obtain ⟨r0, r1⟩ := lastD_is k0 k1 q1 q0
  obtain ⟨b0, b1⟩ : X - 6 ≤ lastD X wk ∧ lastD X wk ≤ X := by unfold lastD; omega
  have R0 := Lib.hid r0
  have R1 := Lib.hid r1
  clear r0 r1
  by_cases h : wday k = wk
  · have tw : (wday k != wk) = false := by rw [bne_eq_false_iff_eq]; exact h
    have hk := R0.out h
    have HK := Lib.hid hk
    clear hk h
    go_wp2_with fail
    go_quiet ((go_at_call 174; exact Calls.quiet_of_same (CW.out _)))
    go_wp2_with fail
    go_ret2
    exact ⟨ret2 HK.out rfl, HV.out.trans ((below_drewN HB.out _).mono HV.out.size)⟩
  · have tw : (wday k != wk) = true := by rw [bne_iff_ne]; exact h
    have hk := R1.out h
    have HK := Lib.hid hk
    clear hk h
    go_wp2_with fail
    go_quiet ((go_at_call 174; exact Calls.quiet_of_same (CW.out _)))
    go_wp2_with fail
    go_roundw
    case rel => exact ⟨k - 1, by have := HK.out; omega, by have := HK.out; omega, rfl, below_drewN HB.out _⟩
    case measure => have := HK.out; simp [intOf]; omega
end Go.Proofs.YtkpmmabdpeobaaaGreatDoor.Civ
