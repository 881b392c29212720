/- The function analemmaref37.At at any TZ and instant. -/
import Derived.Test.YtgllbagmmpicaaaGreatDoorPxS
namespace Go.Proofs.YtgllbagmmpicaaaGreatDoor.Px
open Go.RowKit
open Civ

set_option maxHeartbeats 4000000 in
set_option maxRecDepth 100000 in
theorem ref_at_range (a c : ByteArray) (b d k1 d1 m1 w1 s1 k2 d2 m2 w2 s2 : Int) (t : Int) (ht : t < -36028797018963968 ∨ 36028797018963968 < t) (ha : a.size ≤ 1000000) (hc : c.size ≤ 1000000) (hp : Pos.ok ⟨a, b, c, d, ⟨k1, d1, m1, w1, s1⟩, ⟨k2, d2, m2, w2, s2⟩⟩ = true) (w : World) :
    Calls Tryz.prog 18 #[.agg #[.string a, .int .i64 b, .string c, .int .i64 d, .int .i64 k1, .int .i64 d1, .int .i64 m1, .int .i64 w1, .int .i64 s1, .int .i64 k2, .int .i64 d2, .int .i64 m2, .int .i64 w2, .int .i64 s2], .int .i64 t] w fun e w' => e = .returned (.tuple #[Loc 0 false ⟨#[]⟩, .int .i64 3]) ∧ Below w.heap.size w w' := by
  have CC := Lib.hid (ref_check ⟨a, b, c, d, ⟨k1, d1, m1, w1, s1⟩, ⟨k2, d2, m2, w2, s2⟩⟩ ha hc)
  rw [hp] at CC
  have HA := Lib.hid (((Below.refl _ w).alloc (Nat.le_refl _) (.cells #[.string a, .int .i64 b, .string c, .int .i64 d, .int .i64 k1, .int .i64 d1, .int .i64 m1, .int .i64 w1, .int .i64 s1, .int .i64 k2, .int .i64 d2, .int .i64 m2, .int .i64 w2, .int .i64 s2] 25)).alloc (by simp) (.cells #[.int .i64 0, .bool false, .string ⟨#[]⟩] 35))
  have HRW := Lib.hid ((rowAt_alloc w #[.string a, .int .i64 b, .string c, .int .i64 d, .int .i64 k1, .int .i64 d1, .int .i64 m1, .int .i64 w1, .int .i64 s1, .int .i64 k2, .int .i64 d2, .int .i64 m2, .int .i64 w2, .int .i64 s2] 25).keep ((Below.refl _ _).alloc (Nat.le_refl _) (.cells #[.int .i64 0, .bool false, .string ⟨#[]⟩] 35)))
  clear hp
  rcases ht with ht | ht
  · have tr1 : decide (t < -36028797018963968) = true := decide_eq_true ht
    go_enter Tryz.func18, Tryz.ntmps18
    go_wp2_with fail
    refine (CC.out _).mono ?_
    rintro e V ⟨rfl, hb⟩
    rw [show codeE true = 0 from rfl]
    have hres := heap_keep (b := w.heap.size + 1) (x := .cells #[.int .i64 0, .bool false, .string ⟨#[]⟩] 35 (0, 0)) (by rw [← show (w.alloc (.cells #[.string a, .int .i64 b, .string c, .int .i64 d, .int .i64 k1, .int .i64 d1, .int .i64 m1, .int .i64 w1, .int .i64 s1, .int .i64 k2, .int .i64 d2, .int .i64 m2, .int .i64 w2, .int .i64 s2] 25)).heap.size = w.heap.size + 1 by simp]; exact heap_new _ _) hb
    have hrow := HRW.out.keep hb
    have HV := Lib.hid (HA.out.trans (hb.mono HA.out.size))
    obtain ⟨c0, c1, c2, c3, c4, c5, c6, c7, c8, c9, c10, c11, c12, c13⟩ := hrow.pos
    obtain ⟨⟨r0, r1, r2⟩, f0, f1, f2⟩ := row3 hres
    have hz1 : w.heap.size + 1 < V.heap.size := lt_of_block hres
    have hz0 : w.heap.size < V.heap.size := by omega
    clear hb hrow hres
    clear c0 c1 c2 c3 c4 c5 c6 c7 c8 c9 c10 c11 c12 c13
    go_wp2_with fail
    refine bodyPost_ret (v := .tuple #[Loc 0 false ⟨#[]⟩, .int .i64 3]) (by simp [results, Tryz.results18, go_sem, Loc, r0, r1, r2]) rfl ⟨rfl, ?_⟩
    exact ((HV.out.setCell (by simp) _).setCell (by simp) _).setCell (by simp) _
  · have tr1 : decide (t < -36028797018963968) = false := decide_eq_false (by omega)
    have tr2 : decide (36028797018963968 < t) = true := decide_eq_true ht
    go_enter Tryz.func18, Tryz.ntmps18
    go_wp2_with fail
    refine (CC.out _).mono ?_
    rintro e V ⟨rfl, hb⟩
    rw [show codeE true = 0 from rfl]
    have hres := heap_keep (b := w.heap.size + 1) (x := .cells #[.int .i64 0, .bool false, .string ⟨#[]⟩] 35 (0, 0)) (by rw [← show (w.alloc (.cells #[.string a, .int .i64 b, .string c, .int .i64 d, .int .i64 k1, .int .i64 d1, .int .i64 m1, .int .i64 w1, .int .i64 s1, .int .i64 k2, .int .i64 d2, .int .i64 m2, .int .i64 w2, .int .i64 s2] 25)).heap.size = w.heap.size + 1 by simp]; exact heap_new _ _) hb
    have hrow := HRW.out.keep hb
    have HV := Lib.hid (HA.out.trans (hb.mono HA.out.size))
    obtain ⟨c0, c1, c2, c3, c4, c5, c6, c7, c8, c9, c10, c11, c12, c13⟩ := hrow.pos
    obtain ⟨⟨r0, r1, r2⟩, f0, f1, f2⟩ := row3 hres
    have hz1 : w.heap.size + 1 < V.heap.size := lt_of_block hres
    have hz0 : w.heap.size < V.heap.size := by omega
    clear hb hrow hres
    clear c0 c1 c2 c3 c4 c5 c6 c7 c8 c9 c10 c11 c12 c13
    go_wp2_with fail
    refine bodyPost_ret (v := .tuple #[Loc 0 false ⟨#[]⟩, .int .i64 3]) (by simp [results, Tryz.results18, go_sem, Loc, r0, r1, r2]) rfl ⟨rfl, ?_⟩
    exact ((HV.out.setCell (by simp) _).setCell (by simp) _).setCell (by simp) _
set_option maxHeartbeats 4000000 in
set_option maxRecDepth 100000 in
theorem ref_at_std (a c : ByteArray) (b d k1 d1 m1 w1 s1 k2 d2 m2 w2 s2 : Int) (t : Int) (t0 : -36028797018963968 ≤ t) (t1 : t ≤ 36028797018963968) (ha : a.size ≤ 1000000) (hc : c.size ≤ 1000000) (hne : c.toList.isEmpty = true) (hp : Pos.ok ⟨a, b, c, d, ⟨k1, d1, m1, w1, s1⟩, ⟨k2, d2, m2, w2, s2⟩⟩ = true) (w : World) :
    Calls Tryz.prog 18 #[.agg #[.string a, .int .i64 b, .string c, .int .i64 d, .int .i64 k1, .int .i64 d1, .int .i64 m1, .int .i64 w1, .int .i64 s1, .int .i64 k2, .int .i64 d2, .int .i64 m2, .int .i64 w2, .int .i64 s2], .int .i64 t] w fun e w' => e = .returned (.tuple #[Loc b false a, .int .i64 0]) ∧ Below w.heap.size w w' := by
  have CC := Lib.hid (ref_check ⟨a, b, c, d, ⟨k1, d1, m1, w1, s1⟩, ⟨k2, d2, m2, w2, s2⟩⟩ ha hc)
  rw [hp] at CC
  have HA := Lib.hid (((Below.refl _ w).alloc (Nat.le_refl _) (.cells #[.string a, .int .i64 b, .string c, .int .i64 d, .int .i64 k1, .int .i64 d1, .int .i64 m1, .int .i64 w1, .int .i64 s1, .int .i64 k2, .int .i64 d2, .int .i64 m2, .int .i64 w2, .int .i64 s2] 25)).alloc (by simp) (.cells #[.int .i64 0, .bool false, .string ⟨#[]⟩] 35))
  have HRW := Lib.hid ((rowAt_alloc w #[.string a, .int .i64 b, .string c, .int .i64 d, .int .i64 k1, .int .i64 d1, .int .i64 m1, .int .i64 w1, .int .i64 s1, .int .i64 k2, .int .i64 d2, .int .i64 m2, .int .i64 w2, .int .i64 s2] 25).keep ((Below.refl _ _).alloc (Nat.le_refl _) (.cells #[.int .i64 0, .bool false, .string ⟨#[]⟩] 35)))
  clear hp
  have tr1 : decide (t < -36028797018963968) = false := decide_eq_false (by omega)
  have tr2 : decide (36028797018963968 < t) = false := decide_eq_false (by omega)
  have HNE := Lib.hid hne
  have hne2 : c.toList = [] := List.isEmpty_iff.1 hne
  clear hne
  go_enter Tryz.func18, Tryz.ntmps18
  go_wp2_with fail
  refine (CC.out _).mono ?_
  rintro e V ⟨rfl, hb⟩
  rw [show codeE true = 0 from rfl]
  have hres := heap_keep (b := w.heap.size + 1) (x := .cells #[.int .i64 0, .bool false, .string ⟨#[]⟩] 35 (0, 0)) (by rw [← show (w.alloc (.cells #[.string a, .int .i64 b, .string c, .int .i64 d, .int .i64 k1, .int .i64 d1, .int .i64 m1, .int .i64 w1, .int .i64 s1, .int .i64 k2, .int .i64 d2, .int .i64 m2, .int .i64 w2, .int .i64 s2] 25)).heap.size = w.heap.size + 1 by simp]; exact heap_new _ _) hb
  have hrow := HRW.out.keep hb
  have HV := Lib.hid (HA.out.trans (hb.mono HA.out.size))
  obtain ⟨c0, c1, c2, c3, c4, c5, c6, c7, c8, c9, c10, c11, c12, c13⟩ := hrow.pos
  obtain ⟨⟨r0, r1, r2⟩, f0, f1, f2⟩ := row3 hres
  have hz1 : w.heap.size + 1 < V.heap.size := lt_of_block hres
  have hz0 : w.heap.size < V.heap.size := by omega
  clear hb hrow hres
  go_wp2_with fail
  refine bodyPost_ret (v := .tuple #[Loc b false a, .int .i64 0]) (by simp [results, Tryz.results18, go_sem, Loc, r0, r1, r2, hz1]) rfl ⟨rfl, ?_⟩
  exact (((HV.out.setCell (by simp) _).setCell (by simp) _).setCell (by simp) _).alloc (by simp; omega) _
/-- the local time of a TZ at an instant, and the error -/
def atP (p : Pos) (t : Int) : Value × Int :=
  if p.ok = false then (Loc 0 false ⟨#[]⟩, 2)
  else if t < -36028797018963968 ∨ 36028797018963968 < t then (Loc 0 false ⟨#[]⟩, 3)
  else if p.dst.toList.isEmpty = true then (Loc p.stdOff false p.std, 0)
  else (.agg (locOf p.std p.dst p.stdOff p.dstOff (lastP p t).2), 0)
theorem ok_parts {p : Pos} (h : p.ok = true) (hne : p.dst.toList.isEmpty = false) : p.start.ok = true ∧ p.stop.ok = true ∧ offB p.stdOff = true ∧ offB p.dstOff = true := by
  unfold Pos.ok Pos.stdB Pos.noneB noneQ Pos.dstB at h
  rw [hne] at h
  simp only [Bool.false_and, Bool.false_or, Bool.and_eq_true] at h
  exact ⟨h.2.1.2, h.2.2, h.1.2, h.2.1.1.2⟩
theorem ref_at_any (p : Pos) (t : Int) (ha : p.std.size ≤ 1000000) (hc : p.dst.size ≤ 1000000) (w : World) :
    Calls Tryz.prog 18 #[p.val, .int .i64 t] w fun e w' => e = .returned (.tuple #[(atP p t).1, .int .i64 (atP p t).2]) ∧ Below w.heap.size w w' := by
  unfold atP
  by_cases h1 : p.ok = false
  · rw [if_pos h1]
    exact ref_at_bad p.std p.dst p.stdOff p.dstOff p.start.kind p.start.day p.start.month p.start.week p.start.sec p.stop.kind p.stop.day p.stop.month p.stop.week p.stop.sec t ha hc h1 w
  · have h1' : p.ok = true := by simpa using h1
    rw [if_neg h1]
    by_cases h2 : t < -36028797018963968 ∨ 36028797018963968 < t
    · rw [if_pos h2]
      exact ref_at_range p.std p.dst p.stdOff p.dstOff p.start.kind p.start.day p.start.month p.start.week p.start.sec p.stop.kind p.stop.day p.stop.month p.stop.week p.stop.sec t h2 ha hc h1' w
    · rw [if_neg h2]
      by_cases h3 : p.dst.toList.isEmpty = true
      · rw [if_pos h3]
        exact ref_at_std p.std p.dst p.stdOff p.dstOff p.start.kind p.start.day p.start.month p.start.week p.start.sec p.stop.kind p.stop.day p.stop.month p.stop.week p.stop.sec t (by omega) (by omega) ha hc h3 h1' w
      · have h3' : p.dst.toList.isEmpty = false := by simpa using h3
        rw [if_neg h3]
        obtain ⟨q1, q2, q3, q4⟩ := ok_parts h1' h3'
        exact ref_at_dst p.std p.dst p.stdOff p.dstOff p.start.kind p.start.day p.start.month p.start.week p.start.sec p.stop.kind p.stop.day p.stop.month p.stop.week p.stop.sec t (by omega) (by omega) ha hc h3' q1 q2 q3 q4 h1' w
end Go.Proofs.YtgllbagmmpicaaaGreatDoor.Px
