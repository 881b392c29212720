/- The law PosixAlways returns true for every TZ by numbers and instant: the walk. -/
import Derived.Test.YtgllbagmmpicaaaGreatDoorPmX
import Derived.Test.YtgllbagmmpicaaaGreatDoorPmQ
import Derived.Test.YtgllbagmmpicaaaGreatDoorKn
import Derived.Test.YtgllbagmmpicaaaGreatDoorPwX
import Derived.Test.YtgllbagmmpicaaaGreatDoorPxW
namespace Go.Proofs.YtgllbagmmpicaaaGreatDoor.Px
open Go.RowKit
open Civ

set_option maxHeartbeats 4000000 in
set_option maxRecDepth 100000 in
theorem posixAlways_cells (n0 n1 o0 o1 k0 k1 d0 d1 s0 s1 : Int) (q : Bool) (hd : Drf.In ⟨n0, n1, o0, o1, k0, k1, d0, d1, s0, s1, q⟩) (t : Int) (W : World) (hE : EnvAt W) :
    Calls Tryz.prog 8 #[.agg #[.int .u8 n0, .int .u8 n1, .int .u8 o0, .int .u8 o1, .int .u8 k0, .int .u8 k1, .int .u8 d0, .int .u8 d1, .int .u8 s0, .int .u8 s1, .bool q], .int .i64 t] W fun e w' => e = .returned (.bool true) ∧ Below W.heap.size W w' := by
  have hd0 : Drf.In ⟨n0, n1, o0, o1, k0, k1, d0, d1, s0, s1, false⟩ := ⟨hd.n0, hd.n1, hd.o0, hd.o1, hd.k0, hd.k1, hd.d0, hd.d1, hd.s0, hd.s1⟩
  have hd1 : Drf.In ⟨n0, n1, o0, o1, k0, k1, d0, d1, s0, s1, true⟩ := ⟨hd.n0, hd.n1, hd.o0, hd.o1, hd.k0, hd.k1, hd.d0, hd.d1, hd.s0, hd.s1⟩
  have CM := Lib.hid (fun w => made_cells n0 n1 o0 o1 k0 k1 d0 d1 s0 s1 false hd0 w)
  have CN := Lib.hid (fun w => made_cells n0 n1 o0 o1 k0 k1 d0 d1 s0 s1 true hd1 w)
  have hok := made_ok _ hd0
  have hok1 := made_ok _ hd1
  have hsz := made_size ⟨n0, n1, o0, o1, k0, k1, d0, d1, s0, s1, false⟩
  have hne := made_ne (d := ⟨n0, n1, o0, o1, k0, k1, d0, d1, s0, s1, false⟩) rfl
  have hQ : Drf.made ⟨n0, n1, o0, o1, k0, k1, d0, d1, s0, s1, true⟩ = ⟨(Drf.made ⟨n0, n1, o0, o1, k0, k1, d0, d1, s0, s1, false⟩).std, (Drf.made ⟨n0, n1, o0, o1, k0, k1, d0, d1, s0, s1, false⟩).stdOff, bs [], 0, Dt.zero, Dt.zero⟩ := rfl
  rw [hQ] at CN hok1
  clear hQ hd hd0 hd1
  obtain ⟨P, hP⟩ : ∃ P, Drf.made ⟨n0, n1, o0, o1, k0, k1, d0, d1, s0, s1, false⟩ = P := ⟨_, rfl⟩
  rw [hP] at CM CN hok hok1 hsz hne
  clear hP
  obtain ⟨_, T, _, hT, t0, t1, _⟩ := quo_parts t 36028797018963969 (by decide)
  obtain ⟨q1, q2, q3, q4⟩ := ok_parts hok hne
  rw [offB_iff] at q3 q4
  obtain ⟨b0, b1⟩ := q3
  obtain ⟨v0, v1⟩ := q4
  have hoka : (always P).ok = true := by
    unfold Pos.ok at hok ⊢
    rw [Bool.and_eq_true] at hok ⊢
    refine ⟨hok.1, ?_⟩
    rw [Bool.or_eq_true]
    right
    have h2 := hok.2
    rw [Bool.or_eq_true] at h2
    have h3 : P.dstB = true := by
      rcases h2 with h2 | h2
      · exfalso
        unfold Pos.noneB noneQ at h2
        rw [hne] at h2
        cases h2
      · exact h2
    unfold Pos.dstB at h3 ⊢
    simp only [Bool.and_eq_true] at h3 ⊢
    refine ⟨⟨⟨h3.1.1.1, h3.1.1.2⟩, ?_⟩, ?_⟩
    · rw [Dt.ok_iff]; unfold always; dsimp only; omega
    · rw [Dt.ok_iff]; unfold always; dsimp only; omega
  have hv := always_at hoka hne (t := T) (by omega) (by omega)
  have hv1 := none_at hok1 (show (bs []).toList.isEmpty = true by rw [ByteArray.toList_eq, bs_list]; rfl) (t := T) (by omega) (by omega)
  have CA := Lib.hid (fun w hB hK => at_any (always P) T (show P.std.size ≤ _ by omega) (show P.dst.size ≤ _ by omega) w hB hK)
  have CB := Lib.hid (fun w hB hK => at_any ⟨P.std, P.stdOff, bs [], 0, Dt.zero, Dt.zero⟩ T (show P.std.size ≤ _ by omega) (show (bs []).size ≤ _ by decide) w hB hK)
  rw [hv] at CA
  rw [hv1] at CB
  have HE := Lib.hid hE
  clear hok hok1 hsz hne hv hv1 hoka q1 q2 hE
  obtain ⟨a, b, c, o, ⟨e1, e2, e3, e4, e5⟩, ⟨g1, g2, g3, g4, g5⟩⟩ := P
  unfold Pos.val always at CA
  unfold Pos.val at CM CB CN
  unfold Loc at CA CB
  unfold Dt.zero at CB CN
  rw [show bs [] = ⟨#[]⟩ from rfl] at CB CN
  dsimp only at CM CN CA CB b0 b1 v0 v1
  go_enter Tryz.func8, Tryz.ntmps8
  go_wp2_with fail
  refine (CM.out _).mono ?_
  rintro _ V ⟨rfl, hb⟩
  have K1 := Lib.hid (((Known.start W).alloc (.cells #[.int .u8 n0, .int .u8 n1, .int .u8 o0, .int .u8 o1, .int .u8 k0, .int .u8 k1, .int .u8 d0, .int .u8 d1, .int .u8 s0, .int .u8 s1, .bool false] 41)).keep hb)
  have K2 := Lib.hid (K1.out.alloc (.cells #[.string a, .int .i64 b, .string c, .int .i64 o, .int .i64 2, .int .i64 0, .int .i64 0, .int .i64 0, .int .i64 0, .int .i64 1, .int .i64 365, .int .i64 0, .int .i64 0, .int .i64 (86400 + o - b)] 25))
  clear hb
  go_wp2_with fail
  refine (CA.out _ (HE.out.keep K2.out.below).before (HE.out.keep K2.out.below).kinds).mono ?_
  rintro _ V2 ⟨rfl, hb⟩
  have K3 := Lib.hid (K2.out.keep hb)
  have K4 := Lib.hid ((K3.out.set 1 rfl 10 (.bool true) rfl).allocAt V2.heap.size (by simp) (.cells #[.int .i64 o, .bool true, .string c] 35))
  obtain ⟨m0, m1, m2, m3, m4, m5, m6, m7, m8, m9, m10⟩ := row11 (K3.out.at 1 rfl)
  have m10f : V2.frozen? ⟨W.heap.size, 10, none⟩ = false := free_at (K3.out.at 1 rfl) 10
  have z1 := K3.out.lt 0 rfl
  have z0 := K3.out.lt 1 rfl
  clear hb
  go_wp2_with fail
  refine (CN.out _).mono ?_
  rintro _ V3 ⟨rfl, hb⟩
  have K5 := Lib.hid (K4.out.keep hb)
  have K6 := Lib.hid (K5.out.alloc (.cells #[.string a, .int .i64 b, .string ⟨#[]⟩, .int .i64 0, .int .i64 0, .int .i64 0, .int .i64 0, .int .i64 0, .int .i64 0, .int .i64 0, .int .i64 0, .int .i64 0, .int .i64 0, .int .i64 0] 25))
  clear hb m0 m1 m2 m3 m4 m5 m6 m7 m8 m9 m10 m10f z1 z0
  go_wp2_with fail
  refine (CB.out _ (HE.out.keep K6.out.below).before (HE.out.keep K6.out.below).kinds).mono ?_
  rintro _ V4 ⟨rfl, hb⟩
  have K7 := Lib.hid (K6.out.keep hb)
  have K8 := Lib.hid (K7.out.alloc (.cells #[.int .i64 b, .bool false, .string a] 35))
  clear hb
  obtain ⟨p0, p1, p2, p3, p4, p5, p6, p7, p8, p9, p10, p11, p12, p13⟩ := row14 (K7.out.at 2 rfl)
  obtain ⟨r0, r1, r2, r3, r4, r5, r6, r7, r8, r9, r10, r11, r12, r13⟩ := row14 (K7.out.at 0 rfl)
  obtain ⟨⟨l0, l1, l2⟩, _, _, _⟩ := row3 (K7.out.at 1 rfl)
  have z0 := K7.out.lt 0 rfl
  have z1 := K7.out.lt 1 rfl
  have z2 := K7.out.lt 2 rfl
  go_wp2_with fail
  refine (works_any _ (HE.out.keep K8.out.below)).mono ?_
  rintro _ V5 ⟨rfl, hb⟩
  have K9 := Lib.hid (K8.out.keep hb)
  clear hb
  go_wp2_with fail
  go_ret
  exact ⟨rfl, K9.out.below⟩
end Go.Proofs.YtgllbagmmpicaaaGreatDoor.Px
