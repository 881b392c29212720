/- Days of months: dayform.On and analemmaref02.On at the two kinds of days that POSIX TZ strings need. -/
import Derived.Test.YtgllbagmmpicaaaGreatDoorCivU
import Derived.Laws.EntriesVeiled
namespace Go.Proofs.YtgllbagmmpicaaaGreatDoor.Civ
open Go.RowKit

/-- the variable dayform.kinds, as its initialiser lays it: the kinds 2 and 3 -/
def KindsAt (w : World) : Prop := w.cell? ⟨1, 6, none⟩ = some (.bool true) ∧ w.cell? ⟨1, 7, none⟩ = some (.bool false) ∧ w.cell? ⟨1, 8, none⟩ = some (.func (.func 181) #[] #[]) ∧
  w.cell? ⟨1, 9, none⟩ = some (.bool true) ∧ w.cell? ⟨1, 10, none⟩ = some (.bool true) ∧ w.cell? ⟨1, 11, none⟩ = some (.func (.func 183) #[] #[])
theorem keep_cell {w w' : World} {a : Addr} {v : Value} (h : w.cell? a = some v) (hB : Below w.heap.size w w') : w'.cell? a = some v := (hB.cell (p := a) (block_lt_of_cell h)).trans h
theorem KindsAt.keep {w w' : World} (h : KindsAt w) (hB : Below w.heap.size w w') : KindsAt w' :=
  ⟨keep_cell h.1 hB, keep_cell h.2.1 hB, keep_cell h.2.2.1 hB, keep_cell h.2.2.2.1 hB, keep_cell h.2.2.2.2.1 hB, keep_cell h.2.2.2.2.2 hB⟩

/-- what lies below a new block and draws, behind a call -/
theorem over_box {w V : World} {o : Obj} {n : Nat} (hb : Below ((w.alloc o).drewN n).heap.size ((w.alloc o).drewN n) V) : Below w.heap.size w V := by
  have h1 : Below (w.alloc o).heap.size (w.alloc o) V := ⟨hb.os, hb.tape, hb.output, hb.size, hb.block⟩
  exact ((Below.refl _ w).alloc (Nat.le_refl _) o).trans (h1.mono (by simp))
theorem box_cell {w V : World} {cs : Array Value} {T n : Nat} (hb : Below ((w.alloc (.cells cs T)).drewN n).heap.size ((w.alloc (.cells cs T)).drewN n) V) (i : Nat) : V.cell? ⟨w.heap.size, i, none⟩ = cs[i]? := by
  have h1 : Below (w.alloc (.cells cs T)).heap.size (w.alloc (.cells cs T)) V := ⟨hb.os, hb.tape, hb.output, hb.size, hb.block⟩
  exact (h1.cell (p := ⟨w.heap.size, i, none⟩) (by simp)).trans (World.cell?_alloc_at _ _ _ _ rfl)
set_option maxHeartbeats 4000000 in
set_option maxRecDepth 100000 in
theorem check_from (wk dy : Int) (k0 : 0 ≤ wk) (k1 : wk ≤ 6) (d0 : 1 ≤ dy) (d1 : dy ≤ 31) (w : World) (hK : KindsAt w) :
    Calls Tryz.prog 88 #[.agg #[.int .i64 3, .int .i64 wk, .int .i64 dy]] w fun e w' => e = .returned (.int .i64 0) ∧ Below w.heap.size w w' := by
  obtain ⟨c6, c7, c8, c9, c10, c11⟩ := hK
  have td : (dy == 0) = false := by rw [beq_eq_false_iff_ne]; omega
  have hz : 1 < w.heap.size := block_lt_of_cell c9
  clear c6 c7 c8
  by_cases hw : wk = 0
  · subst hw
    go_enter Tryz.func88, Tryz.ntmps88
    go_wp2_with fail
    go_ret
    exact ⟨rfl, ((Below.refl _ _).alloc (Nat.le_refl _) _).alloc (by simp) _⟩
  · have tw : (wk != 0) = true := by rw [bne_iff_ne]; exact hw
    clear hw
    go_enter Tryz.func88, Tryz.ntmps88
    go_wp2_with fail
    go_ret
    exact ⟨rfl, ((Below.refl _ _).alloc (Nat.le_refl _) _).alloc (by simp) _⟩
set_option maxHeartbeats 4000000 in
set_option maxRecDepth 100000 in
theorem check_last (wk : Int) (k0 : 0 ≤ wk) (k1 : wk ≤ 6) (w : World) (hK : KindsAt w) :
    Calls Tryz.prog 88 #[.agg #[.int .i64 2, .int .i64 wk, .int .i64 0]] w fun e w' => e = .returned (.int .i64 0) ∧ Below w.heap.size w w' := by
  obtain ⟨c6, c7, c8, c9, c10, c11⟩ := hK
  have hz : 1 < w.heap.size := block_lt_of_cell c9
  clear c9 c10 c11
  by_cases hw : wk = 0
  · subst hw
    go_enter Tryz.func88, Tryz.ntmps88
    go_wp2_with fail
    go_ret
    exact ⟨rfl, ((Below.refl _ _).alloc (Nat.le_refl _) _).alloc (by simp) _⟩
  · have tw : (wk != 0) = true := by rw [bne_iff_ne]; exact hw
    clear hw
    go_enter Tryz.func88, Tryz.ntmps88
    go_wp2_with fail
    go_ret
    exact ⟨rfl, ((Below.refl _ _).alloc (Nat.le_refl _) _).alloc (by simp) _⟩
theorem find_from (x l wk dy : Int) (h0 : -2000000000000 ≤ x) (h1 : x ≤ 2000000000000) (k0 : 0 ≤ wk) (k1 : wk ≤ 6) (d0 : 1 ≤ dy) (d1 : dy ≤ 31) (w : World) :
    Calls Tryz.prog 183 #[.int .i64 x, .int .i64 l, .agg #[.int .i64 3, .int .i64 wk, .int .i64 dy]] w fun e w' => e = .returned (.int .i64 (fromD (x + dy - 1) wk)) ∧ Below w.heap.size w w' := by
  have C := Lib.hid (behind_any (x + dy - 1) wk (by omega) (by omega) k0 k1)
  go_enter Tryz.func183, Tryz.ntmps183
  go_wp2_with fail
  refine (C.out _).mono ?_
  rintro e w' ⟨rfl, n, rfl⟩
  go_wp2_with fail
  go_ret
  exact ⟨rfl, below_drewN ((Below.refl _ _).alloc (Nat.le_refl _) _) n⟩
theorem find_last (x l wk : Int) (h0 : -2000000000000 ≤ l) (h1 : l ≤ 2000000000000) (k0 : 0 ≤ wk) (k1 : wk ≤ 6) (w : World) :
    Calls Tryz.prog 181 #[.int .i64 x, .int .i64 l, .agg #[.int .i64 2, .int .i64 wk, .int .i64 0]] w fun e w' => e = .returned (.int .i64 (lastD l wk)) ∧ Below w.heap.size w w' := by
  have C := Lib.hid (before_any l wk (by omega) (by omega) k0 k1)
  go_enter Tryz.func181, Tryz.ntmps181
  go_wp2_with fail
  refine (C.out _).mono ?_
  rintro e w' ⟨rfl, n, rfl⟩
  go_wp2_with fail
  go_ret
  exact ⟨rfl, below_drewN ((Below.refl _ _).alloc (Nat.le_refl _) _) n⟩
theorem dayOf_bd {y m d : Int} (h0 : -2000000000 ≤ y) (h1 : y ≤ 2000000000) (m0 : 1 ≤ m) (m1 : m ≤ 12) (d0 : 0 ≤ d) (d1 : d ≤ 31) : -1000000000000 ≤ dayOf y m d ∧ dayOf y m d ≤ 1000000000000 := by
  have := cum_top y m m0 m1
  have := size_ge y
  unfold dayOf jan
  omega
theorem dayOf_first (y m d : Int) : dayOf y m 1 + d - 1 = dayOf y m d := by unfold dayOf; omega
set_option maxHeartbeats 4000000 in
set_option maxRecDepth 100000 in
theorem on_from (y m wk dy : Int) (h0 : -2000000000 ≤ y) (h1 : y ≤ 2000000000) (m0 : 1 ≤ m) (m1 : m ≤ 12) (k0 : 0 ≤ wk) (k1 : wk ≤ 6) (d0 : 1 ≤ dy) (d1 : dy ≤ 28) (w : World) (hB : BeforeAt w) (hK : KindsAt w) :
    Calls Tryz.prog 56 #[.int .i64 y, .int .i64 m, .agg #[.int .i64 3, .int .i64 wk, .int .i64 dy]] w fun e w' => e = .returned (.tuple #[.int .i64 (fromD (dayOf y m dy) wk), .int .i64 0]) ∧ Below w.heap.size w w' := by
  obtain ⟨u0, u1, u2, u3⟩ := cum_top y m m0 m1
  obtain ⟨v0, v1⟩ := dayOf_bd (d := 1) h0 h1 m0 m1 (by omega) (by omega)
  have CD := Lib.hid (days_any y m 1 h0 h1 m0 m1 (by omega) (by omega))
  have CC := Lib.hid (check_from wk dy k0 k1 d0 (by omega))
  have CL := Lib.hid (len_any y m m0 m1)
  have CF := Lib.hid (fun l => find_from (dayOf y m 1) l wk dy (by omega) (by omega) k0 k1 d0 (by omega))
  rw [dayOf_first] at CF
  have hz : 1 < w.heap.size := block_lt_of_cell hK.1
  have HB := Lib.hid hB
  have HK := Lib.hid hK
  have hdl : ¬ mlen y m < dy := by omega
  have HA := Lib.hid ((Below.refl _ w).alloc (Nat.le_refl _) (.cells #[.int .i64 3, .int .i64 wk, .int .i64 dy] 88))
  clear hB hK
  go_enter Tryz.func56, Tryz.ntmps56
  go_wp2_with fail
  refine (CD.out _ (HB.out.keep HA.out)).mono ?_
  rintro e w' ⟨rfl, n, rfl⟩
  go_wp2_with fail
  refine (CC.out _ (HK.out.keep (below_drewN HA.out n))).mono ?_
  rintro e V ⟨rfl, hb⟩
  have x0 : V.cell? ⟨w.heap.size, 0, none⟩ = some (.int .i64 3) := box_cell hb 0
  have x1 : V.cell? ⟨w.heap.size, 1, none⟩ = some (.int .i64 wk) := box_cell hb 1
  have x2 : V.cell? ⟨w.heap.size, 2, none⟩ = some (.int .i64 dy) := box_cell hb 2
  have HV := Lib.hid (over_box hb)
  have hKV := HK.out.keep HV.out
  obtain ⟨_, _, _, _, _, c11⟩ := hKV
  clear hb
  go_wp2_with fail
  refine (CL.out _).mono ?_
  rintro e w' ⟨rfl, rfl⟩
  go_wp2_with fail
  go_region_with (go_at_call 183; refine (CF.out _ _).mono ?_; rintro e V2 ⟨rfl, k2⟩)
  all_goals
    go_wp2_with fail
    go_ret2
    exact ⟨rfl, HV.out.trans ((show Below V.heap.size V _ from ⟨k2.os, k2.tape, k2.output, k2.size, k2.block⟩).mono HV.out.size)⟩
set_option maxHeartbeats 4000000 in
set_option maxRecDepth 100000 in
theorem on_last (y m wk : Int) (h0 : -2000000000 ≤ y) (h1 : y ≤ 2000000000) (m0 : 1 ≤ m) (m1 : m ≤ 12) (k0 : 0 ≤ wk) (k1 : wk ≤ 6) (w : World) (hB : BeforeAt w) (hK : KindsAt w) :
    Calls Tryz.prog 56 #[.int .i64 y, .int .i64 m, .agg #[.int .i64 2, .int .i64 wk, .int .i64 0]] w fun e w' => e = .returned (.tuple #[.int .i64 (lastD (dayOf y m (mlen y m)) wk), .int .i64 0]) ∧ Below w.heap.size w w' := by
  obtain ⟨u0, u1, u2, u3⟩ := cum_top y m m0 m1
  obtain ⟨v0, v1⟩ := dayOf_bd (d := 1) h0 h1 m0 m1 (by omega) (by omega)
  have CD := Lib.hid (days_any y m 1 h0 h1 m0 m1 (by omega) (by omega))
  have CC := Lib.hid (check_last wk k0 k1)
  have CL := Lib.hid (len_any y m m0 m1)
  have CF := Lib.hid (fun x => find_last x (dayOf y m 1 + mlen y m - 1) wk (by omega) (by omega) k0 k1)
  have hz : 1 < w.heap.size := block_lt_of_cell hK.1
  have HB := Lib.hid hB
  have HK := Lib.hid hK
  have hdl : ¬ mlen y m < 0 := by omega
  have HE := Lib.hid (dayOf_first y m (mlen y m))
  have HA := Lib.hid ((Below.refl _ w).alloc (Nat.le_refl _) (.cells #[.int .i64 2, .int .i64 wk, .int .i64 0] 88))
  clear hB hK
  go_enter Tryz.func56, Tryz.ntmps56
  go_wp2_with fail
  refine (CD.out _ (HB.out.keep HA.out)).mono ?_
  rintro e w' ⟨rfl, n, rfl⟩
  go_wp2_with fail
  refine (CC.out _ (HK.out.keep (below_drewN HA.out n))).mono ?_
  rintro e V ⟨rfl, hb⟩
  have x0 : V.cell? ⟨w.heap.size, 0, none⟩ = some (.int .i64 2) := box_cell hb 0
  have x1 : V.cell? ⟨w.heap.size, 1, none⟩ = some (.int .i64 wk) := box_cell hb 1
  have x2 : V.cell? ⟨w.heap.size, 2, none⟩ = some (.int .i64 0) := box_cell hb 2
  have HV := Lib.hid (over_box hb)
  have hKV := HK.out.keep HV.out
  obtain ⟨_, _, c8, _, _, _⟩ := hKV
  clear hb
  go_wp2_with fail
  refine (CL.out _).mono ?_
  rintro e w' ⟨rfl, rfl⟩
  go_wp2_with fail
  have w1 : IntKind.i64.wrap (dayOf y m 1 + mlen y m) = dayOf y m 1 + mlen y m := IntWalk.i64_in _ (by omega)
  have w2 : IntKind.i64.wrap (dayOf y m 1 + mlen y m - 1) = dayOf y m 1 + mlen y m - 1 := IntWalk.i64_in _ (by omega)
  go_region_with (go_at_call 181; refine (CF.out _ _).mono ?_; rintro e V2 ⟨rfl, k2⟩)
  all_goals
    clear w1 w2
    go_wp2_with fail
    go_ret2
    exact ⟨ret2 (by rw [HE.out]) rfl, HV.out.trans ((show Below V.heap.size V _ from ⟨k2.os, k2.tape, k2.output, k2.size, k2.block⟩).mono HV.out.size)⟩
end Go.Proofs.YtgllbagmmpicaaaGreatDoor.Civ
