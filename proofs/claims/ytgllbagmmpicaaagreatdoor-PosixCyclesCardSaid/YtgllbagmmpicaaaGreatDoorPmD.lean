/- The law PosixCycles returns true for every TZ by numbers, instant and number of cycles: the walk. -/
import Derived.Test.YtgllbagmmpicaaaGreatDoorPmX
import Derived.Test.YtgllbagmmpicaaaGreatDoorPmQ
import Derived.Test.YtgllbagmmpicaaaGreatDoorKn
import Derived.Test.YtgllbagmmpicaaaGreatDoorPwX
import Derived.Test.YtgllbagmmpicaaaGreatDoorPxW
namespace Go.Proofs.YtgllbagmmpicaaaGreatDoor.Px
open Go.RowKit
open Civ

set_option maxHeartbeats 4000000 in
set_option maxRecDepth 100000 in
theorem posixCycles_cells (n0 n1 o0 o1 k0 k1 d0 d1 s0 s1 : Int) (q : Bool) (hd : Drf.In ⟨n0, n1, o0, o1, k0, k1, d0, d1, s0, s1, q⟩) (t n : Int) (n_0 : 0 ≤ n) (n_1 : n ≤ 4294967295) (W : World) (hE : EnvAt W) :
    Calls Tryz.prog 7 #[.agg #[.int .u8 n0, .int .u8 n1, .int .u8 o0, .int .u8 o1, .int .u8 k0, .int .u8 k1, .int .u8 d0, .int .u8 d1, .int .u8 s0, .int .u8 s1, .bool q], .int .i64 t, .int .u32 n] W fun e w' => e = .returned (.bool true) ∧ Below W.heap.size W w' := by
  have CM := Lib.hid (fun w => made_cells n0 n1 o0 o1 k0 k1 d0 d1 s0 s1 q hd w)
  have hok := made_ok _ hd
  have hsz := made_size ⟨n0, n1, o0, o1, k0, k1, d0, d1, s0, s1, q⟩
  have hqe : q = true → (Drf.made ⟨n0, n1, o0, o1, k0, k1, d0, d1, s0, s1, q⟩).dst.toList.isEmpty = true := by
    intro h
    unfold Drf.made
    rw [if_pos h]
    dsimp only
    rw [ByteArray.toList_eq, bs_list]; rfl
  obtain ⟨P, hP⟩ : ∃ P, Drf.made ⟨n0, n1, o0, o1, k0, k1, d0, d1, s0, s1, q⟩ = P := ⟨_, rfl⟩
  rw [hP] at CM hok hsz hqe
  obtain ⟨_, T, _, hT, t0, t1, _⟩ := quo_parts t 18014398509481984 (by decide)
  have hC : n.tmod 1000000 = n % 1000000 := Int.tmod_eq_emod_of_nonneg n_0
  have c0 : 0 ≤ n % 1000000 := by omega
  have c1 : n % 1000000 ≤ 999999 := by omega
  obtain ⟨C, hC2⟩ : ∃ C, n % 1000000 = C := ⟨_, rfl⟩
  rw [hC2] at hC c0 c1
  have h4 : atP P (T + C * 12622780800) = atP P T := by
    rw [show T + C * 12622780800 = T + 12622780800 * C by omega]
    exact at_400 hok c0 (by omega) (by omega)
  have hcase : atP P T = (Loc P.stdOff false P.std, 0) ∨ (q = false ∧ atP P T = (Loc P.dstOff true P.dst, 0)) := by
    rcases at_two hok (t := T) (by omega) (by omega) with h | ⟨h1, h⟩
    · exact .inl h
    · cases q
      · exact .inr ⟨rfl, h⟩
      · rw [hqe rfl] at h1; cases h1
  have CA := Lib.hid (fun w hB hK => at_any P T (by omega) (by omega) w hB hK)
  have CB := Lib.hid (fun w hB hK => at_any P (T + C * 12622780800) (by omega) (by omega) w hB hK)
  rw [h4] at CB
  have HE := Lib.hid hE
  clear hP hok hsz hqe hC2 h4 hd hE
  obtain ⟨a, b, c, o, ⟨e1, e2, e3, e4, e5⟩, ⟨g1, g2, g3, g4, g5⟩⟩ := P
  have hb2 : o = b ∨ o ≠ b := Decidable.em _
  rcases hcase with hv | ⟨rfl, hv⟩
  · rw [hv] at CA CB
    unfold Pos.val at CM CA CB
    unfold Loc at CA CB
    dsimp only at CM CA CB
    clear hv hb2
    go_enter Tryz.func7, Tryz.ntmps7
    go_wp2_with fail
    refine (CM.out _).mono ?_
    rintro _ V ⟨rfl, hb⟩
    have K1 := Lib.hid (((Known.start W).alloc (.cells #[.int .u8 n0, .int .u8 n1, .int .u8 o0, .int .u8 o1, .int .u8 k0, .int .u8 k1, .int .u8 d0, .int .u8 d1, .int .u8 s0, .int .u8 s1, .bool q] 41)).keep hb)
    have K2 := Lib.hid (K1.out.alloc (.cells #[.string a, .int .i64 b, .string c, .int .i64 o, .int .i64 e1, .int .i64 e2, .int .i64 e3, .int .i64 e4, .int .i64 e5, .int .i64 g1, .int .i64 g2, .int .i64 g3, .int .i64 g4, .int .i64 g5] 25))
    clear hb
    go_wp2_with fail
    refine (CA.out _ (HE.out.keep K2.out.below).before (HE.out.keep K2.out.below).kinds).mono ?_
    rintro _ V2 ⟨rfl, hb⟩
    have K3 := Lib.hid (K2.out.keep hb)
    have K4 := Lib.hid (K3.out.alloc (.cells #[.int .i64 b, .bool false, .string a] 35))
    obtain ⟨p0, p1, p2, p3, p4, p5, p6, p7, p8, p9, p10, p11, p12, p13⟩ := row14 (K3.out.at 0 rfl)
    have z1 := K3.out.lt 0 rfl
    clear hb
    go_wp2_with fail
    refine (CB.out _ (HE.out.keep K4.out.below).before (HE.out.keep K4.out.below).kinds).mono ?_
    rintro _ V3 ⟨rfl, hb⟩
    have K5 := Lib.hid (K4.out.keep hb)
    have K6 := Lib.hid (K5.out.alloc (.cells #[.int .i64 b, .bool false, .string a] 35))
    clear hb p0 p1 p2 p3 p4 p5 p6 p7 p8 p9 p10 p11 p12 p13 z1
    obtain ⟨p0, p1, p2, p3, p4, p5, p6, p7, p8, p9, p10, p11, p12, p13⟩ := row14 (K5.out.at 1 rfl)
    obtain ⟨⟨l0, l1, l2⟩, _, _, _⟩ := row3 (K5.out.at 0 rfl)
    have z1 := K5.out.lt 1 rfl
    have z2 := K5.out.lt 0 rfl
    go_wp2_with fail
    refine (works_any _ (HE.out.keep K6.out.below)).mono ?_
    rintro _ V4 ⟨rfl, hb⟩
    have K7 := Lib.hid (K6.out.keep hb)
    clear hb
    go_wp2_with fail
    go_ret
    exact ⟨rfl, K7.out.below⟩
  · rw [hv] at CA CB
    unfold Pos.val at CM CA CB
    unfold Loc at CA CB
    dsimp only at CM CA CB
    clear hv
    rcases hb2 with rfl | hb2
    · skip
      go_enter Tryz.func7, Tryz.ntmps7
      go_wp2_with fail
      refine (CM.out _).mono ?_
      rintro _ V ⟨rfl, hb⟩
      have K1 := Lib.hid (((Known.start W).alloc (.cells #[.int .u8 n0, .int .u8 n1, .int .u8 o0, .int .u8 o1, .int .u8 k0, .int .u8 k1, .int .u8 d0, .int .u8 d1, .int .u8 s0, .int .u8 s1, .bool false] 41)).keep hb)
      have K2 := Lib.hid (K1.out.alloc (.cells #[.string a, .int .i64 o, .string c, .int .i64 o, .int .i64 e1, .int .i64 e2, .int .i64 e3, .int .i64 e4, .int .i64 e5, .int .i64 g1, .int .i64 g2, .int .i64 g3, .int .i64 g4, .int .i64 g5] 25))
      clear hb
      go_wp2_with fail
      refine (CA.out _ (HE.out.keep K2.out.below).before (HE.out.keep K2.out.below).kinds).mono ?_
      rintro _ V2 ⟨rfl, hb⟩
      have K3 := Lib.hid (K2.out.keep hb)
      have K4 := Lib.hid (K3.out.alloc (.cells #[.int .i64 o, .bool true, .string c] 35))
      obtain ⟨p0, p1, p2, p3, p4, p5, p6, p7, p8, p9, p10, p11, p12, p13⟩ := row14 (K3.out.at 0 rfl)
      have z1 := K3.out.lt 0 rfl
      clear hb
      go_wp2_with fail
      refine (CB.out _ (HE.out.keep K4.out.below).before (HE.out.keep K4.out.below).kinds).mono ?_
      rintro _ V3 ⟨rfl, hb⟩
      have K5 := Lib.hid (K4.out.keep hb)
      have K6 := Lib.hid (K5.out.alloc (.cells #[.int .i64 o, .bool true, .string c] 35))
      clear hb p0 p1 p2 p3 p4 p5 p6 p7 p8 p9 p10 p11 p12 p13 z1
      obtain ⟨p0, p1, p2, p3, p4, p5, p6, p7, p8, p9, p10, p11, p12, p13⟩ := row14 (K5.out.at 1 rfl)
      obtain ⟨⟨l0, l1, l2⟩, _, _, _⟩ := row3 (K5.out.at 0 rfl)
      have z1 := K5.out.lt 1 rfl
      have z2 := K5.out.lt 0 rfl
      have z3 := K5.out.lt 2 rfl
      have m10 : V3.cell? ⟨W.heap.size, 10, none⟩ = some (.bool false) := cells_at (K5.out.at 2 rfl) 10
      go_wp2_with fail
      refine (works_any _ (HE.out.keep K6.out.below)).mono ?_
      rintro _ V4 ⟨rfl, hb⟩
      have K7 := Lib.hid (K6.out.keep hb)
      clear hb
      go_wp2_with fail
      go_ret
      exact ⟨rfl, K7.out.below⟩
    · have hb3 : (o == b) = false := beq_eq_false_iff_ne.2 hb2
      clear hb2
      go_enter Tryz.func7, Tryz.ntmps7
      go_wp2_with fail
      refine (CM.out _).mono ?_
      rintro _ V ⟨rfl, hb⟩
      have K1 := Lib.hid (((Known.start W).alloc (.cells #[.int .u8 n0, .int .u8 n1, .int .u8 o0, .int .u8 o1, .int .u8 k0, .int .u8 k1, .int .u8 d0, .int .u8 d1, .int .u8 s0, .int .u8 s1, .bool false] 41)).keep hb)
      have K2 := Lib.hid (K1.out.alloc (.cells #[.string a, .int .i64 b, .string c, .int .i64 o, .int .i64 e1, .int .i64 e2, .int .i64 e3, .int .i64 e4, .int .i64 e5, .int .i64 g1, .int .i64 g2, .int .i64 g3, .int .i64 g4, .int .i64 g5] 25))
      clear hb
      go_wp2_with fail
      refine (CA.out _ (HE.out.keep K2.out.below).before (HE.out.keep K2.out.below).kinds).mono ?_
      rintro _ V2 ⟨rfl, hb⟩
      have K3 := Lib.hid (K2.out.keep hb)
      have K4 := Lib.hid (K3.out.alloc (.cells #[.int .i64 o, .bool true, .string c] 35))
      obtain ⟨p0, p1, p2, p3, p4, p5, p6, p7, p8, p9, p10, p11, p12, p13⟩ := row14 (K3.out.at 0 rfl)
      have z1 := K3.out.lt 0 rfl
      clear hb
      go_wp2_with fail
      refine (CB.out _ (HE.out.keep K4.out.below).before (HE.out.keep K4.out.below).kinds).mono ?_
      rintro _ V3 ⟨rfl, hb⟩
      have K5 := Lib.hid (K4.out.keep hb)
      have K6 := Lib.hid (K5.out.alloc (.cells #[.int .i64 o, .bool true, .string c] 35))
      clear hb p0 p1 p2 p3 p4 p5 p6 p7 p8 p9 p10 p11 p12 p13 z1
      obtain ⟨p0, p1, p2, p3, p4, p5, p6, p7, p8, p9, p10, p11, p12, p13⟩ := row14 (K5.out.at 1 rfl)
      obtain ⟨⟨l0, l1, l2⟩, _, _, _⟩ := row3 (K5.out.at 0 rfl)
      have z1 := K5.out.lt 1 rfl
      have z2 := K5.out.lt 0 rfl
      have z3 := K5.out.lt 2 rfl
      have m10 : V3.cell? ⟨W.heap.size, 10, none⟩ = some (.bool false) := cells_at (K5.out.at 2 rfl) 10
      go_wp2_with fail
      refine (works_any _ (HE.out.keep K6.out.below)).mono ?_
      rintro _ V4 ⟨rfl, hb⟩
      have K7 := Lib.hid (K6.out.keep hb)
      clear hb
      go_wp2_with fail
      go_ret
      exact ⟨rfl, K7.out.below⟩
end Go.Proofs.YtgllbagmmpicaaaGreatDoor.Px
