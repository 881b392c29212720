/- The examples of the law hold. -/
import Derived.Test.YtgllbagmmpicaaaGreatDoorPwW
import Derived.Deep.QuietTactic
import Derived.BigQuiet
import Derived.Outline
namespace Go.Proofs.YtgllbagmmpicaaaGreatDoor.Px
open Go.RowKit
open Civ

set_option maxHeartbeats 4000000 in
set_option maxRecDepth 100000 in
theorem works_any (w : World) (hE : EnvAt w) :
    Calls Tryz.prog 10 #[] w fun e w' => e = .returned (.bool true) ∧ Below w.heap.size w w' := by
  have C1 := Lib.hid (fun w hE => parse_at a1_read w hE)
  unfold Pos.val a1P at C1
  dsimp only at C1
  have R1 := Lib.hid (fun w hE => reads_at a1_read a1_print (by decide) (by decide) w hE)
  have R2 := Lib.hid (fun w hE => reads_at a2_read a2_print (by decide) (by decide) w hE)
  have R3 := Lib.hid (fun w hE => reads_at a3_read a3_print (by decide) (by decide) w hE)
  have R4 := Lib.hid (fun w hE => reads_at a4_read a4_print (by decide) (by decide) w hE)
  have B0 := Lib.hid (fun w hE => parse_at bad0 w hE)
  have B1 := Lib.hid (fun w hE => parse_at bad1 w hE)
  have B2 := Lib.hid (fun w hE => parse_at bad2 w hE)
  have B3 := Lib.hid (fun w hE => parse_at bad3 w hE)
  have B4 := Lib.hid (fun w hE => parse_at bad4 w hE)
  have B5 := Lib.hid (fun w hE => parse_at bad5 w hE)
  have B6 := Lib.hid (fun w hE => parse_at bad6 w hE)
  have A1 := Lib.hid (fun w hE => at_at a5_read t1 (by decide) (by decide) w hE)
  have A2 := Lib.hid (fun w hE => at_at a5_read t2 (by decide) (by decide) w hE)
  have A3 := Lib.hid (fun w hE => at_at a6_read t3 (by decide) (by decide) w hE)
  unfold Pos.val Pos.zero Dt.zero at B0 B1 B2 B3 B4 B5 B6
  dsimp only at B0 B1 B2 B3 B4 B5 B6
  have q1 : (bs [73, 83, 84]).toList = [73, 83, 84] := by rw [ByteArray.toList_eq, bs_list]
  have q2 : (bs [71, 77, 84]).toList = [71, 77, 84] := by rw [ByteArray.toList_eq, bs_list]
  have q3 : (bs []).toList = [] := by rw [ByteArray.toList_eq, bs_list]
  have q4 : (bs [67, 69, 84]).toList = [67, 69, 84] := by rw [ByteArray.toList_eq, bs_list]
  have q5 : (bs [67, 69, 83, 84]).toList = [67, 69, 83, 84] := by rw [ByteArray.toList_eq, bs_list]
  have q6 : (bs [69, 68, 84]).toList = [69, 68, 84] := by rw [ByteArray.toList_eq, bs_list]
  have HE := Lib.hid hE
  clear hE
  go_enter Tryz.func10, Tryz.ntmps10
  go_wp2_with fail
  refine (C1.out _ HE.out).mono ?_
  rintro _ V ⟨rfl, hb⟩
  have HB := Lib.hid (hb.alloc hb.size (.cells #[.string (bs [73, 83, 84]), .int .i64 3600, .string (bs [71, 77, 84]), .int .i64 0, .int .i64 3, .int .i64 0, .int .i64 10, .int .i64 5, .int .i64 7200, .int .i64 3, .int .i64 0, .int .i64 3, .int .i64 3, .int .i64 7200] 25))
  clear hb
  go_wp2_with fail
  refine (R1.out _ (HE.out.keep HB.out)).mono ?_
  rintro _ V1 ⟨rfl, hb⟩
  have HB1 := Lib.hid (HB.out.trans (hb.mono HB.out.size))
  clear hb
  go_wp2_with fail
  refine (R2.out _ (HE.out.keep HB1.out)).mono ?_
  rintro _ V2 ⟨rfl, hb⟩
  have HB2 := Lib.hid (HB1.out.trans (hb.mono HB1.out.size))
  clear hb
  go_wp2_with fail
  refine (R3.out _ (HE.out.keep HB2.out)).mono ?_
  rintro _ V3 ⟨rfl, hb⟩
  have HB3 := Lib.hid (HB2.out.trans (hb.mono HB2.out.size))
  clear hb
  go_wp2_with fail
  refine (R4.out _ (HE.out.keep HB3.out)).mono ?_
  rintro _ V4 ⟨rfl, hb⟩
  have HB4 := Lib.hid (HB3.out.trans (hb.mono HB3.out.size))
  clear hb
  go_wp2_with fail
  have HBa := Lib.hid (HB4.out.alloc HB4.out.size (.cells #[.string ⟨#[67, 69, 84]⟩, .string ⟨#[67, 69, 84, 45, 49, 67, 69, 83, 84]⟩, .string ⟨#[67, 69, 45, 49]⟩, .string ⟨#[67, 69, 84, 43, 49]⟩, .string ⟨#[67, 69, 84, 45, 50, 53]⟩, .string ⟨#[67, 69, 84, 45, 49, 67, 69, 83, 84, 44, 77, 49, 51, 46, 49, 46, 48, 44, 74, 49]⟩, .string ⟨#[]⟩] 9))
  have HROW := Lib.hid (rowAt_alloc V4 #[.string ⟨#[67, 69, 84]⟩, .string ⟨#[67, 69, 84, 45, 49, 67, 69, 83, 84]⟩, .string ⟨#[67, 69, 45, 49]⟩, .string ⟨#[67, 69, 84, 43, 49]⟩, .string ⟨#[67, 69, 84, 45, 50, 53]⟩, .string ⟨#[67, 69, 84, 45, 49, 67, 69, 83, 84, 44, 77, 49, 51, 46, 49, 46, 48, 44, 74, 49]⟩, .string ⟨#[]⟩] 9)
  have c0 := HROW.out.2 0
  refine wp_loop_rounds 8 ?_
  rw [rounds_succ]
  go_wp2_with fail
  refine (B0.out _ (HE.out.keep HBa.out)).mono ?_
  rintro _ W0 ⟨rfl, hb⟩
  have HW0 := Lib.hid (HBa.out.trans (hb.mono HBa.out.size))
  have HR0 := Lib.hid (HROW.out.keep hb)
  clear hb c0
  have c1 := HR0.out.2 1
  have z1 : V4.heap.size < W0.heap.size := HR0.out.1
  have HX1 := Lib.hid (HW0.out.alloc HW0.out.size (.cells #[.string (bs []), .int .i64 0, .string (bs []), .int .i64 0, .int .i64 0, .int .i64 0, .int .i64 0, .int .i64 0, .int .i64 0, .int .i64 0, .int .i64 0, .int .i64 0, .int .i64 0, .int .i64 0] 25))
  go_wp2_with fail
  rw [rounds_succ]
  go_wp2_with fail
  refine (B1.out _ (HE.out.keep HX1.out)).mono ?_
  rintro _ W1 ⟨rfl, hb⟩
  have HW1 := Lib.hid (HX1.out.trans (hb.mono HX1.out.size))
  have HR1 := Lib.hid ((HR0.out.keep ((Below.refl _ _).alloc (Nat.le_refl _) _)).keep hb)
  clear hb c1 z1
  have c2 := HR1.out.2 2
  have z2 : V4.heap.size < W1.heap.size := HR1.out.1
  have HX2 := Lib.hid (HW1.out.alloc HW1.out.size (.cells #[.string (bs []), .int .i64 0, .string (bs []), .int .i64 0, .int .i64 0, .int .i64 0, .int .i64 0, .int .i64 0, .int .i64 0, .int .i64 0, .int .i64 0, .int .i64 0, .int .i64 0, .int .i64 0] 25))
  go_wp2_with fail
  rw [rounds_succ]
  go_wp2_with fail
  refine (B2.out _ (HE.out.keep HX2.out)).mono ?_
  rintro _ W2 ⟨rfl, hb⟩
  have HW2 := Lib.hid (HX2.out.trans (hb.mono HX2.out.size))
  have HR2 := Lib.hid ((HR1.out.keep ((Below.refl _ _).alloc (Nat.le_refl _) _)).keep hb)
  clear hb c2 z2
  have c3 := HR2.out.2 3
  have z3 : V4.heap.size < W2.heap.size := HR2.out.1
  have HX3 := Lib.hid (HW2.out.alloc HW2.out.size (.cells #[.string (bs []), .int .i64 0, .string (bs []), .int .i64 0, .int .i64 0, .int .i64 0, .int .i64 0, .int .i64 0, .int .i64 0, .int .i64 0, .int .i64 0, .int .i64 0, .int .i64 0, .int .i64 0] 25))
  go_wp2_with fail
  rw [rounds_succ]
  go_wp2_with fail
  refine (B3.out _ (HE.out.keep HX3.out)).mono ?_
  rintro _ W3 ⟨rfl, hb⟩
  have HW3 := Lib.hid (HX3.out.trans (hb.mono HX3.out.size))
  have HR3 := Lib.hid ((HR2.out.keep ((Below.refl _ _).alloc (Nat.le_refl _) _)).keep hb)
  clear hb c3 z3
  have c4 := HR3.out.2 4
  have z4 : V4.heap.size < W3.heap.size := HR3.out.1
  have HX4 := Lib.hid (HW3.out.alloc HW3.out.size (.cells #[.string (bs []), .int .i64 0, .string (bs []), .int .i64 0, .int .i64 0, .int .i64 0, .int .i64 0, .int .i64 0, .int .i64 0, .int .i64 0, .int .i64 0, .int .i64 0, .int .i64 0, .int .i64 0] 25))
  go_wp2_with fail
  rw [rounds_succ]
  go_wp2_with fail
  refine (B4.out _ (HE.out.keep HX4.out)).mono ?_
  rintro _ W4 ⟨rfl, hb⟩
  have HW4 := Lib.hid (HX4.out.trans (hb.mono HX4.out.size))
  have HR4 := Lib.hid ((HR3.out.keep ((Below.refl _ _).alloc (Nat.le_refl _) _)).keep hb)
  clear hb c4 z4
  have c5 := HR4.out.2 5
  have z5 : V4.heap.size < W4.heap.size := HR4.out.1
  have HX5 := Lib.hid (HW4.out.alloc HW4.out.size (.cells #[.string (bs []), .int .i64 0, .string (bs []), .int .i64 0, .int .i64 0, .int .i64 0, .int .i64 0, .int .i64 0, .int .i64 0, .int .i64 0, .int .i64 0, .int .i64 0, .int .i64 0, .int .i64 0] 25))
  go_wp2_with fail
  rw [rounds_succ]
  go_wp2_with fail
  refine (B5.out _ (HE.out.keep HX5.out)).mono ?_
  rintro _ W5 ⟨rfl, hb⟩
  have HW5 := Lib.hid (HX5.out.trans (hb.mono HX5.out.size))
  have HR5 := Lib.hid ((HR4.out.keep ((Below.refl _ _).alloc (Nat.le_refl _) _)).keep hb)
  clear hb c5 z5
  have c6 := HR5.out.2 6
  have z6 : V4.heap.size < W5.heap.size := HR5.out.1
  have HX6 := Lib.hid (HW5.out.alloc HW5.out.size (.cells #[.string (bs []), .int .i64 0, .string (bs []), .int .i64 0, .int .i64 0, .int .i64 0, .int .i64 0, .int .i64 0, .int .i64 0, .int .i64 0, .int .i64 0, .int .i64 0, .int .i64 0, .int .i64 0] 25))
  go_wp2_with fail
  rw [rounds_succ]
  go_wp2_with fail
  refine (B6.out _ (HE.out.keep HX6.out)).mono ?_
  rintro _ W6 ⟨rfl, hb⟩
  have HW6 := Lib.hid (HX6.out.trans (hb.mono HX6.out.size))
  have HR6 := Lib.hid ((HR5.out.keep ((Below.refl _ _).alloc (Nat.le_refl _) _)).keep hb)
  clear hb c6 z6
  have HX7 := Lib.hid (HW6.out.alloc HW6.out.size (.cells #[.string (bs []), .int .i64 0, .string (bs []), .int .i64 0, .int .i64 0, .int .i64 0, .int .i64 0, .int .i64 0, .int .i64 0, .int .i64 0, .int .i64 0, .int .i64 0, .int .i64 0, .int .i64 0] 25))
  go_wp2_with fail
  rw [rounds_succ]
  go_wp2_with fail
  refine (A1.out _ (HE.out.keep HX7.out)).mono ?_
  rintro _ U1 ⟨rfl, hb⟩
  have HU1 := Lib.hid (HX7.out.trans (hb.mono HX7.out.size))
  clear hb
  go_wp2_with fail
  refine (A2.out _ (HE.out.keep HU1.out)).mono ?_
  rintro _ U2 ⟨rfl, hb⟩
  have HU2 := Lib.hid (HU1.out.trans (hb.mono HU1.out.size))
  clear hb
  go_wp2_with fail
  refine (A3.out _ (HE.out.keep HU2.out)).mono ?_
  rintro _ U3 ⟨rfl, hb⟩
  have HU3 := Lib.hid (HU2.out.trans (hb.mono HU2.out.size))
  clear hb
  go_wp2_with fail
  go_ret
  exact ⟨rfl, HU3.out⟩
end Go.Proofs.YtgllbagmmpicaaaGreatDoor.Px
