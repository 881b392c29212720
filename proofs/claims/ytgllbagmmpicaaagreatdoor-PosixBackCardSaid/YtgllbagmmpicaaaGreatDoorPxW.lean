/- The function posix.At at any TZ and instant. -/
import Derived.Test.YtgllbagmmpicaaaGreatDoorPxQ
import Derived.Test.YtgllbagmmpicaaaGreatDoorPxV
namespace Go.Proofs.YtgllbagmmpicaaaGreatDoor.Px
open Go.RowKit
open Civ

set_option maxHeartbeats 4000000 in
set_option maxRecDepth 100000 in
theorem at_bad (a c : ByteArray) (b d k1 d1 m1 w1 s1 k2 d2 m2 w2 s2 : Int) (t : Int) (ha : a.size ≤ 1000000) (hc : c.size ≤ 1000000) (hp : Pos.ok ⟨a, b, c, d, ⟨k1, d1, m1, w1, s1⟩, ⟨k2, d2, m2, w2, s2⟩⟩ = false) (w : World) :
    Calls Tryz.prog 17 #[.agg #[.string a, .int .i64 b, .string c, .int .i64 d, .int .i64 k1, .int .i64 d1, .int .i64 m1, .int .i64 w1, .int .i64 s1, .int .i64 k2, .int .i64 d2, .int .i64 m2, .int .i64 w2, .int .i64 s2], .int .i64 t] w fun e w' => e = .returned (.tuple #[Loc 0 false ⟨#[]⟩, .int .i64 2]) ∧ Below w.heap.size w w' := by
  have CC := Lib.hid (check_any ⟨a, b, c, d, ⟨k1, d1, m1, w1, s1⟩, ⟨k2, d2, m2, w2, s2⟩⟩ ha hc)
  rw [hp] at CC
  have HA := Lib.hid (((Below.refl _ w).alloc (Nat.le_refl _) (.cells #[.string a, .int .i64 b, .string c, .int .i64 d, .int .i64 k1, .int .i64 d1, .int .i64 m1, .int .i64 w1, .int .i64 s1, .int .i64 k2, .int .i64 d2, .int .i64 m2, .int .i64 w2, .int .i64 s2] 25)).alloc (by simp) (.cells #[.int .i64 0, .bool false, .string ⟨#[]⟩] 35))
  clear hp
  go_enter Tryz.func17, Tryz.ntmps17
  go_wp2_with fail
  refine (CC.out _).mono ?_
  rintro e V ⟨rfl, hb⟩
  rw [show codeE false = 2 from rfl]
  have hres := heap_keep (b := w.heap.size + 1) (x := .cells #[.int .i64 0, .bool false, .string ⟨#[]⟩] 35 (0, 0)) (by rw [← show (w.alloc (.cells #[.string a, .int .i64 b, .string c, .int .i64 d, .int .i64 k1, .int .i64 d1, .int .i64 m1, .int .i64 w1, .int .i64 s1, .int .i64 k2, .int .i64 d2, .int .i64 m2, .int .i64 w2, .int .i64 s2] 25)).heap.size = w.heap.size + 1 by simp]; exact heap_new _ _) hb
  have HV := Lib.hid (HA.out.trans (hb.mono HA.out.size))
  obtain ⟨⟨r0, r1, r2⟩, f0, f1, f2⟩ := row3 hres
  clear hb hres
  go_wp2_with fail
  refine bodyPost_ret (v := .tuple #[Loc 0 false ⟨#[]⟩, .int .i64 2]) (by simp [results, Tryz.results17, go_sem, Loc, r0, r1, r2]) rfl ⟨rfl, ?_⟩
  exact ((HV.out.setCell (by simp) _).setCell (by simp) _).setCell (by simp) _
set_option maxHeartbeats 4000000 in
set_option maxRecDepth 100000 in
theorem at_range (a c : ByteArray) (b d k1 d1 m1 w1 s1 k2 d2 m2 w2 s2 : Int) (t : Int) (ht : t < -36028797018963968 ∨ 36028797018963968 < t) (ha : a.size ≤ 1000000) (hc : c.size ≤ 1000000) (hp : Pos.ok ⟨a, b, c, d, ⟨k1, d1, m1, w1, s1⟩, ⟨k2, d2, m2, w2, s2⟩⟩ = true) (w : World) :
    Calls Tryz.prog 17 #[.agg #[.string a, .int .i64 b, .string c, .int .i64 d, .int .i64 k1, .int .i64 d1, .int .i64 m1, .int .i64 w1, .int .i64 s1, .int .i64 k2, .int .i64 d2, .int .i64 m2, .int .i64 w2, .int .i64 s2], .int .i64 t] w fun e w' => e = .returned (.tuple #[Loc 0 false ⟨#[]⟩, .int .i64 3]) ∧ Below w.heap.size w w' := by
  have CC := Lib.hid (check_any ⟨a, b, c, d, ⟨k1, d1, m1, w1, s1⟩, ⟨k2, d2, m2, w2, s2⟩⟩ ha hc)
  rw [hp] at CC
  have CI := Lib.hid (in64 t (-36028797018963968) 36028797018963968 false (decide_eq_false (by omega)))
  have HA := Lib.hid (((Below.refl _ w).alloc (Nat.le_refl _) (.cells #[.string a, .int .i64 b, .string c, .int .i64 d, .int .i64 k1, .int .i64 d1, .int .i64 m1, .int .i64 w1, .int .i64 s1, .int .i64 k2, .int .i64 d2, .int .i64 m2, .int .i64 w2, .int .i64 s2] 25)).alloc (by simp) (.cells #[.int .i64 0, .bool false, .string ⟨#[]⟩] 35))
  clear hp ht
  go_enter Tryz.func17, Tryz.ntmps17
  go_wp2_with fail
  refine (CC.out _).mono ?_
  rintro e V ⟨rfl, hb⟩
  rw [show codeE true = 0 from rfl]
  have hres := heap_keep (b := w.heap.size + 1) (x := .cells #[.int .i64 0, .bool false, .string ⟨#[]⟩] 35 (0, 0)) (by rw [← show (w.alloc (.cells #[.string a, .int .i64 b, .string c, .int .i64 d, .int .i64 k1, .int .i64 d1, .int .i64 m1, .int .i64 w1, .int .i64 s1, .int .i64 k2, .int .i64 d2, .int .i64 m2, .int .i64 w2, .int .i64 s2] 25)).heap.size = w.heap.size + 1 by simp]; exact heap_new _ _) hb
  have HV := Lib.hid (HA.out.trans (hb.mono HA.out.size))
  obtain ⟨⟨r0, r1, r2⟩, f0, f1, f2⟩ := row3 hres
  clear hb hres
  go_wp2_with fail
  refine (CI.out _).mono ?_
  rintro e w' ⟨rfl, rfl⟩
  go_wp2_with fail
  refine bodyPost_ret (v := .tuple #[Loc 0 false ⟨#[]⟩, .int .i64 3]) (by simp [results, Tryz.results17, go_sem, Loc, r0, r1, r2]) rfl ⟨rfl, ?_⟩
  exact ((HV.out.setCell (by simp) _).setCell (by simp) _).setCell (by simp) _
set_option maxHeartbeats 4000000 in
set_option maxRecDepth 100000 in
theorem at_std (a c : ByteArray) (b d k1 d1 m1 w1 s1 k2 d2 m2 w2 s2 : Int) (t : Int) (t0 : -36028797018963968 ≤ t) (t1 : t ≤ 36028797018963968) (ha : a.size ≤ 1000000) (hc : c.size ≤ 1000000) (hne : c.toList.isEmpty = true) (hp : Pos.ok ⟨a, b, c, d, ⟨k1, d1, m1, w1, s1⟩, ⟨k2, d2, m2, w2, s2⟩⟩ = true) (w : World) (hBA : BeforeAt w) :
    Calls Tryz.prog 17 #[.agg #[.string a, .int .i64 b, .string c, .int .i64 d, .int .i64 k1, .int .i64 d1, .int .i64 m1, .int .i64 w1, .int .i64 s1, .int .i64 k2, .int .i64 d2, .int .i64 m2, .int .i64 w2, .int .i64 s2], .int .i64 t] w fun e w' => e = .returned (.tuple #[Loc b false a, .int .i64 0]) ∧ Below w.heap.size w w' := by
  have CC := Lib.hid (check_any ⟨a, b, c, d, ⟨k1, d1, m1, w1, s1⟩, ⟨k2, d2, m2, w2, s2⟩⟩ ha hc)
  rw [hp] at CC
  have CI := Lib.hid (in64 t (-36028797018963968) 36028797018963968 true (decide_eq_true ⟨t0, t1⟩))
  have CY := Lib.hid (fun w h => year_any t (by omega) (by omega) w h)
  have hyb : -2000000 * 1000 + 10 ≤ yearT t ∧ yearT t ≤ 2000000 * 1000 - 10 := by
    have hy := yearOf_ok (t / 86400)
    have hb : -1999999990 ≤ yearOf (t / 86400) ∧ yearOf (t / 86400) ≤ 1999999990 := by
      obtain ⟨a, b⟩ := hy
      unfold jan at a b
      omega
    unfold yearT
    rw [if_neg (by omega), if_neg (by omega)]
    omega
  obtain ⟨Y, hY⟩ : ∃ Y, yearT t = Y := ⟨_, rfl⟩
  rw [hY] at CY hyb
  obtain ⟨y0, y1⟩ := hyb
  have HA := Lib.hid (((Below.refl _ w).alloc (Nat.le_refl _) (.cells #[.string a, .int .i64 b, .string c, .int .i64 d, .int .i64 k1, .int .i64 d1, .int .i64 m1, .int .i64 w1, .int .i64 s1, .int .i64 k2, .int .i64 d2, .int .i64 m2, .int .i64 w2, .int .i64 s2] 25)).alloc (by simp) (.cells #[.int .i64 0, .bool false, .string ⟨#[]⟩] 35))
  have HRW := Lib.hid ((rowAt_alloc w #[.string a, .int .i64 b, .string c, .int .i64 d, .int .i64 k1, .int .i64 d1, .int .i64 m1, .int .i64 w1, .int .i64 s1, .int .i64 k2, .int .i64 d2, .int .i64 m2, .int .i64 w2, .int .i64 s2] 25).keep ((Below.refl _ _).alloc (Nat.le_refl _) (.cells #[.int .i64 0, .bool false, .string ⟨#[]⟩] 35)))
  have HBA := Lib.hid hBA
  have hne2 : c.toList = [] := List.isEmpty_iff.1 hne
  clear hp hY hBA hne
  go_enter Tryz.func17, Tryz.ntmps17
  go_wp2_with fail
  refine (CC.out _).mono ?_
  rintro e V ⟨rfl, hb⟩
  rw [show codeE true = 0 from rfl]
  have hres := heap_keep (b := w.heap.size + 1) (x := .cells #[.int .i64 0, .bool false, .string ⟨#[]⟩] 35 (0, 0)) (by rw [← show (w.alloc (.cells #[.string a, .int .i64 b, .string c, .int .i64 d, .int .i64 k1, .int .i64 d1, .int .i64 m1, .int .i64 w1, .int .i64 s1, .int .i64 k2, .int .i64 d2, .int .i64 m2, .int .i64 w2, .int .i64 s2] 25)).heap.size = w.heap.size + 1 by simp]; exact heap_new _ _) hb
  have HV := Lib.hid (HA.out.trans (hb.mono HA.out.size))
  have HRES := Lib.hid hres
  have HROW := Lib.hid (HRW.out.keep hb)
  have hz1 : w.heap.size + 1 < V.heap.size := lt_of_block hres
  have hz0 : w.heap.size < V.heap.size := by omega
  clear hb hres
  go_wp2_with fail
  refine (CI.out _).mono ?_
  rintro e w' ⟨rfl, rfl⟩
  go_wp2_with fail
  have HAV := Lib.hid (HV.out.alloc (Nat.le_of_lt hz0) (.cells #[.int .i64 (-4611686018427387904), .bool false] 77))
  refine (CY.out _ (HBA.out.keep HAV.out)).mono ?_
  rintro e V2 ⟨rfl, hb⟩
  have hV2 : Below V.heap.size V V2 := ((Below.refl _ V).alloc (Nat.le_refl _) _).trans (hb.mono (by simp))
  have HLAST := Lib.hid (heap_keep (heap_new V (.cells #[.int .i64 (-4611686018427387904), .bool false] 77)) hb)
  have HB2 := Lib.hid hV2
  have hz2 : V.heap.size < V2.heap.size := lt_of_block HLAST.out
  obtain ⟨⟨r0, r1, r2⟩, fr0, fr1, fr2⟩ := row3 (heap_keep HRES.out HB2.out)
  obtain ⟨c0, c1, c2, c3, c4, c5, c6, c7, c8, c9, c10, c11, c12, c13⟩ := (HROW.out.keep HB2.out).pos
  have l1 : V2.cell? ⟨V.heap.size, 1, none⟩ = some (.bool false) := cells_at HLAST.out 1
  have HBW := Lib.hid (HV.out.trans (HB2.out.mono HV.out.size))
  clear hb hV2
  go_wp2_with fail
  refine wp_loop_rounds 1 ?_
  rw [rounds_succ]
  go_wp2_with fail
  refine bodyPost_ret (v := .tuple #[Loc b false a, .int .i64 0]) (by simp [results, Tryz.results17, go_sem, Loc, r0, r1, r2]) rfl ⟨rfl, ?_⟩
  exact ((HBW.out.setCell (by simp) _).setCell (by simp) _).setCell (by simp) _
theorem at_any (p : Pos) (t : Int) (ha : p.std.size ≤ 1000000) (hc : p.dst.size ≤ 1000000) (w : World) (hBA : BeforeAt w) (hKA : KindsAt w) :
    Calls Tryz.prog 17 #[p.val, .int .i64 t] w fun e w' => e = .returned (.tuple #[(atP p t).1, .int .i64 (atP p t).2]) ∧ Below w.heap.size w w' := by
  unfold atP
  by_cases h1 : p.ok = false
  · rw [if_pos h1]
    exact at_bad p.std p.dst p.stdOff p.dstOff p.start.kind p.start.day p.start.month p.start.week p.start.sec p.stop.kind p.stop.day p.stop.month p.stop.week p.stop.sec t ha hc h1 w
  · have h1' : p.ok = true := by simpa using h1
    rw [if_neg h1]
    by_cases h2 : t < -36028797018963968 ∨ 36028797018963968 < t
    · rw [if_pos h2]
      exact at_range p.std p.dst p.stdOff p.dstOff p.start.kind p.start.day p.start.month p.start.week p.start.sec p.stop.kind p.stop.day p.stop.month p.stop.week p.stop.sec t h2 ha hc h1' w
    · rw [if_neg h2]
      by_cases h3 : p.dst.toList.isEmpty = true
      · rw [if_pos h3]
        exact at_std p.std p.dst p.stdOff p.dstOff p.start.kind p.start.day p.start.month p.start.week p.start.sec p.stop.kind p.stop.day p.stop.month p.stop.week p.stop.sec t (by omega) (by omega) ha hc h3 h1' w hBA
      · have h3' : p.dst.toList.isEmpty = false := by simpa using h3
        rw [if_neg h3]
        obtain ⟨q1, q2, q3, q4⟩ := ok_parts h1' h3'
        exact at_dst p.std p.dst p.stdOff p.dstOff p.start.kind p.start.day p.start.month p.start.week p.start.sec p.stop.kind p.stop.day p.stop.month p.stop.week p.stop.sec t (by omega) (by omega) ha hc h3' q1 q2 q3 q4 h1' w hBA hKA
end Go.Proofs.YtgllbagmmpicaaaGreatDoor.Px
