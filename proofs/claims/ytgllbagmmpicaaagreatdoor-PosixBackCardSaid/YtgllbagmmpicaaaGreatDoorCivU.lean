/- The functions of packages civil, dayform, analemmaref01 and analemmaref02 that layers above call, continued: the year of an instant, weekdays, days of months. -/
import Derived.Test.YtgllbagmmpicaaaGreatDoorCivV
namespace Go.Proofs.YtgllbagmmpicaaaGreatDoor.Civ
open Go.RowKit

theorem ret3 {k l m : IntKind} {a b c d e f : Int} (h : a = b) (h' : c = d) (h2 : e = f) : Ending.returned (.tuple #[.int k a, .int l c, .int m e]) = .returned (.tuple #[.int k b, .int l d, .int m f]) := by rw [h, h', h2]
theorem before_bd (k : Nat) (h : k ≤ 11) : 0 ≤ before k ∧ before k ≤ 337 ∧ (10 ≤ k → 306 ≤ before k) ∧ (k ≤ 9 → before (k + 1) ≤ 306) ∧ (k = 0 → before k = 0) := by unfold before; omega
set_option maxHeartbeats 4000000 in
theorem date_any (d : Int) (h0 : -1000000000000000 ≤ d) (h1 : d ≤ 1000000000000000) (w : World) (hB : BeforeAt w) :
    Calls Tryz.prog 80 #[.int .i64 d] w fun e w' => (∃ m x : Int, e = .returned (.tuple #[.int .i64 (yearOf d), .int .i64 m, .int .i64 x])) ∧ Below w.heap.size w w' := by
  have CS1 := Lib.hid (split_any d 146097 (by omega) (by omega) (by decide) (by decide))
  have CS2 := Lib.hid (split_any (d % 146097 + 719468) 146097 (by omega) (by omega) (by decide) (by decide))
  have e1 : (d % 146097 + 719468) % 146097 = rst d := by unfold rst; omega
  have e2 : d / 146097 + (d % 146097 + 719468) / 146097 = cyc d := by unfold cyc; omega
  have hr : 0 ≤ rst d ∧ rst d < 146097 := by unfold rst; omega
  have hc : -10000000000 ≤ cyc d ∧ cyc d ≤ 10000000000 := by unfold cyc; omega
  obtain ⟨a1, a2, a3, a4, a5⟩ := yin_ok (rst d) hr.1 hr.2
  have hyd : yearOf d = if rst d - marF (yin (rst d)) < 306 then 400 * cyc d + yin (rst d) else 400 * cyc d + yin (rst d) + 1 := rfl
  have hyy : (rst d - rst d / 1460 + rst d / 36524 - rst d / 146096) / 365 = yin (rst d) := rfl
  have hmm : rst d - (yin (rst d) * 365 + yin (rst d) / 4 - yin (rst d) / 100) = rst d - marF (yin (rst d)) := by unfold marF; omega
  obtain ⟨c, hcc⟩ : ∃ c, cyc d = c := ⟨_, rfl⟩
  obtain ⟨r, hrr⟩ : ∃ r, rst d = r := ⟨_, rfl⟩
  obtain ⟨y, hy⟩ : ∃ y, yearOf d = y := ⟨_, rfl⟩
  rw [hcc] at e2 hc hyd
  rw [hrr] at e1 hr a1 a2 a3 a4 a5 hyd hyy hmm
  rw [hy] at hyd ⊢
  obtain ⟨n, hn⟩ : ∃ n, yin r = n := ⟨_, rfl⟩
  rw [hn] at a1 a2 a3 a4 a5 hyd hyy hmm
  obtain ⟨m, hm⟩ : ∃ m, r - marF n = m := ⟨_, rfl⟩
  rw [hm] at a3 a4 hyd hmm
  have HYD := Lib.hid hyd
  obtain ⟨p1, hp1⟩ : ∃ p, d / 146097 = p := ⟨_, rfl⟩
  obtain ⟨p2, hp2⟩ : ∃ p, d % 146097 = p := ⟨_, rfl⟩
  have q1 : -10000000000 ≤ p1 ∧ p1 ≤ 10000000000 := by omega
  have q2 : 0 ≤ p2 ∧ p2 < 146097 := by omega
  rw [hp1] at e2 CS1
  rw [hp2] at e1 e2 CS1 CS2
  obtain ⟨p3, hp3⟩ : ∃ p, (p2 + 719468) / 146097 = p := ⟨_, rfl⟩
  have q3 : 0 ≤ p3 ∧ p3 ≤ 10 := by omega
  rw [hp3] at e2 CS2
  rw [e1] at CS2
  obtain ⟨q10, q11⟩ := q1
  obtain ⟨q20, q21⟩ := q2
  obtain ⟨q30, q31⟩ := q3
  obtain ⟨hr0, hr1⟩ := hr
  obtain ⟨hc0, hc1⟩ := hc
  clear hcc hrr hy hn hm hyd hp1 hp2 hp3 e1 h0 h1 a5
  have HB := Lib.hid hB
  clear hB
  have t1 : 146097 ≤ p2 + 719468 := by omega
  go_enter Tryz.func80, Tryz.ntmps80
  go_wp2_with fail
  refine (CS1.out _).mono ?_
  rintro e w' ⟨rfl, n1, rfl⟩
  go_wp2_with fail
  refine (CS2.out _).mono ?_
  rintro e w' ⟨rfl, n2, rfl⟩
  obtain ⟨V, hV⟩ : ∃ V, (w.drewN n1).drewN n2 = V := ⟨_, rfl⟩
  have HV := Lib.hid (show Below w.heap.size w V by rw [← hV]; exact below_drewN (below_drewN (Below.refl _ _) _) _)
  rw [hV]
  clear hV
  have HBV := Lib.hid (HB.out.keep HV.out)
  go_wp2_with fail
  go_loop [10] (fun i => ∃ k : Nat, k ≤ 11 ∧ (k < 11 → m < before (k + 1)) ∧ i = .int .i64 k) (fun i => (intOf i).toNat)
  case atStart => exact ⟨11, by omega, by omega, rfl⟩
  case round =>
    obtain ⟨k, k0, k1, rfl⟩ := hrel
    have hcell := HBV.out k (by omega)
    obtain ⟨f0, f1, f2, f3, f4⟩ := before_bd k k0
    have hki : (k : Int) < 12 := by omega
    obtain ⟨bk, hbk⟩ : ∃ b, before (k : Int) = b := ⟨_, rfl⟩
    rw [hbk] at hcell f0 f1 f2 f4
    have HBK := Lib.hid hbk
    have K1 := Lib.hid k1
    have F2 := Lib.hid f2
    have F3 := Lib.hid f3
    have F4 := Lib.hid f4
    clear hbk k1 f2 f3 f4
    by_cases hlt : m < bk
    · have hk1 : 1 ≤ k := by
        rcases Nat.eq_zero_or_pos k with h | h
        · have := F4.out h; omega
        · exact h
      obtain ⟨j, rfl⟩ : ∃ j, k = j + 1 := ⟨k - 1, by omega⟩
      go_wp2_with fail
      go_round
      case rel => exact ⟨j, by omega, fun _ => by rw [show ((j : Int) + 1) = ((j + 1 : Nat) : Int) by omega, HBK.out]; exact hlt, by go_num⟩
      case measure => first | (simp [intOf]; done) | (simp [intOf]; omega)
    · go_wp2_with fail
      go_quiet (fail)
      by_cases hk : 10 ≤ k
      · have hk' : (10 : Int) ≤ k := by omega
        go_wp2_with fail
        go_ret3
        refine ⟨⟨_, _, ret3 ?_ rfl rfl⟩, below_drewN HV.out _⟩
        rw [HYD.out, if_neg (by have := F2.out hk; omega)]
        omega
      · have hk' : (k : Int) < 10 := by omega
        go_wp2_with fail
        go_ret3
        refine ⟨⟨_, _, ret3 ?_ rfl rfl⟩, below_drewN HV.out _⟩
        rw [HYD.out, if_pos (by have := F3.out (by omega); have := K1.out (by omega); omega)]
        omega
set_option maxHeartbeats 2000000 in
theorem year_any (t : Int) (h2 : -4611686018427387904 ≤ t) (h3 : t ≤ 4611686018427387904) (w : World) (hB : BeforeAt w) :
    Calls Tryz.prog 45 #[.int .i64 t] w fun e w' => e = .returned (.int .i64 (yearT t)) ∧ Below w.heap.size w w' := by
  have C := Lib.hid (split_any t 86400 h2 h3 (by decide) (by decide))
  have CY := Lib.hid (date_any (t / 86400) (by omega) (by omega))
  obtain ⟨y0, y1⟩ := yearOf_bd (d := t / 86400) (by omega) (by omega)
  unfold yearT
  obtain ⟨d, hd⟩ : ∃ d, t / 86400 = d := ⟨_, rfl⟩
  rw [hd] at C CY y0 y1 ⊢
  clear hd
  obtain ⟨y, hy⟩ : ∃ y, yearOf d = y := ⟨_, rfl⟩
  rw [hy] at CY y0 y1 ⊢
  clear hy
  have HB := Lib.hid hB
  clear hB
  by_cases a : y < -2000000000
  · rw [if_pos a]
    go_enter Tryz.func45, Tryz.ntmps45
    go_wp2_with fail
    refine (C.out _).mono ?_
    rintro e w' ⟨rfl, n, rfl⟩
    go_wp2_with fail
    refine (CY.out (w.drewN n) (HB.out.keep (below_drewN (Below.refl _ _) n))).mono ?_
    rintro e w' ⟨⟨r, q, rfl⟩, hb⟩
    have HW := Lib.hid (show Below w.heap.size w w' from ⟨hb.os, hb.tape, hb.output, hb.size, hb.block⟩)
    clear hb
    go_wp2_with fail
    go_ret
    exact ⟨rfl, HW.out⟩
  · rw [if_neg a]
    by_cases b : 2000000000 < y
    · rw [if_pos b]
      go_enter Tryz.func45, Tryz.ntmps45
      go_wp2_with fail
      refine (C.out _).mono ?_
      rintro e w' ⟨rfl, n, rfl⟩
      go_wp2_with fail
      refine (CY.out (w.drewN n) (HB.out.keep (below_drewN (Below.refl _ _) n))).mono ?_
      rintro e w' ⟨⟨r, q, rfl⟩, hb⟩
      have HW := Lib.hid (show Below w.heap.size w w' from ⟨hb.os, hb.tape, hb.output, hb.size, hb.block⟩)
      clear hb
      go_wp2_with fail
      go_ret
      exact ⟨rfl, HW.out⟩
    · rw [if_neg b]
      go_enter Tryz.func45, Tryz.ntmps45
      go_wp2_with fail
      refine (C.out _).mono ?_
      rintro e w' ⟨rfl, n, rfl⟩
      go_wp2_with fail
      refine (CY.out (w.drewN n) (HB.out.keep (below_drewN (Below.refl _ _) n))).mono ?_
      rintro e w' ⟨⟨r, q, rfl⟩, hb⟩
      have HW := Lib.hid (show Below w.heap.size w w' from ⟨hb.os, hb.tape, hb.output, hb.size, hb.block⟩)
      clear hb
      go_wp2_with fail
      go_ret
      exact ⟨rfl, HW.out⟩
theorem ref_wday (x : Int) (w : World) :
    Calls Tryz.prog 117 #[.int .i64 x] w fun e w' => e = .returned (.int .i64 (wday x)) ∧ w = w' := by
  obtain ⟨q, r, hq, hr, r1, r2, x1, x2, hn, hp⟩ := quo_parts x 7 (by decide)
  have e : (r + 11) % 7 = wday x := by
    unfold wday
    by_cases h : r < 0
    · have := hn h; omega
    · have := hp (by omega); omega
  clear hq hn hp x1 x2
  go_enter Tryz.func117, Tryz.ntmps117
  go_wp2_with fail
  go_ret
  exact ⟨ret1 e, rfl⟩
theorem wday_bd (x : Int) : 0 ≤ wday x ∧ wday x ≤ 6 := by unfold wday; omega
theorem wday_any (x : Int) (w : World) :
    Calls Tryz.prog 186 #[.int .i64 x] w fun e w' => e = .returned (.int .i64 (wday x)) ∧ ∃ n, w' = w.drewN n := by
  obtain ⟨q, r, hq, hr, r1, r2, x1, x2, hn, hp⟩ := quo_parts x 7 (by decide)
  have e : (r + 4) % 7 = wday x := by
    unfold wday
    by_cases h : r < 0
    · have := hn h; omega
    · have := hp (by omega); omega
  have CS := Lib.hid (split_any (r + 4) 7 (by omega) (by omega) (by decide) (by decide))
  rw [e] at CS
  clear hq hn hp x1 x2 e
  go_enter Tryz.func186, Tryz.ntmps186
  go_wp2_with fail
  refine (CS.out _).mono ?_
  rintro e w' ⟨rfl, n, rfl⟩
  go_wp2_with fail
  go_ret
  exact ⟨rfl, n, rfl⟩
/-- the first day from one on with a weekday, and the last day up to one -/
def fromD (x wk : Int) : Int := x + (wk - wday x + 7) % 7
def lastD (x wk : Int) : Int := x - (wday x - wk + 7) % 7
theorem behind_any (x wk : Int) (h0 : -4000000000000000000 ≤ x) (h1 : x ≤ 4000000000000000000) (k0 : 0 ≤ wk) (k1 : wk ≤ 6) (w : World) :
    Calls Tryz.prog 184 #[.int .i64 x, .int .i64 wk] w fun e w' => e = .returned (.int .i64 (fromD x wk)) ∧ ∃ n, w' = w.drewN n := by
  have C := Lib.hid (wday_any x)
  obtain ⟨b0, b1⟩ := wday_bd x
  unfold fromD
  go_enter Tryz.func184, Tryz.ntmps184
  go_wp2_with fail
  refine (C.out _).mono ?_
  rintro e w' ⟨rfl, n, rfl⟩
  go_wp2_with fail
  go_ret
  exact ⟨ret1 (by omega), n, rfl⟩
theorem before_any (x wk : Int) (h0 : -4000000000000000000 ≤ x) (h1 : x ≤ 4000000000000000000) (k0 : 0 ≤ wk) (k1 : wk ≤ 6) (w : World) :
    Calls Tryz.prog 182 #[.int .i64 x, .int .i64 wk] w fun e w' => e = .returned (.int .i64 (lastD x wk)) ∧ ∃ n, w' = w.drewN n := by
  have C := Lib.hid (wday_any x)
  obtain ⟨b0, b1⟩ := wday_bd x
  unfold lastD
  go_enter Tryz.func182, Tryz.ntmps182
  go_wp2_with fail
  refine (C.out _).mono ?_
  rintro e w' ⟨rfl, n, rfl⟩
  go_wp2_with fail
  go_ret
  exact ⟨ret1 (by omega), n, rfl⟩
theorem ref2_in (x a b : Int) (r : Bool) (hr : decide (a ≤ x ∧ x ≤ b) = r) (w : World) :
    Calls Tryz.prog 115 #[.int .i64 x, .int .i64 a, .int .i64 b] w fun e w' => e = .returned (.bool r) ∧ w = w' := by
  by_cases h1 : a ≤ x
  · by_cases h2 : x ≤ b
    · obtain rfl : r = true := by rw [← hr]; exact decide_eq_true ⟨h1, h2⟩
      clear hr
      go_enter Tryz.func115, Tryz.ntmps115
      go_wp2_with fail
      go_ret
      exact ⟨rfl, rfl⟩
    · obtain rfl : r = false := by rw [← hr]; exact decide_eq_false (fun h => h2 h.2)
      clear hr
      go_enter Tryz.func115, Tryz.ntmps115
      go_wp2_with fail
      go_ret
      exact ⟨rfl, rfl⟩
  · obtain rfl : r = false := by rw [← hr]; exact decide_eq_false (fun h => h1 h.1)
    clear hr
    go_enter Tryz.func115, Tryz.ntmps115
    go_wp2_with fail
    go_ret
    exact ⟨rfl, rfl⟩
end Go.Proofs.YtgllbagmmpicaaaGreatDoor.Civ
