/- The examples of the law: the functions reads and at. -/
import Derived.Test.YtgllbagmmpicaaaGreatDoorPwP
import Derived.Test.YtgllbagmmpicaaaGreatDoorPrS
import Derived.Test.YtgllbagmmpicaaaGreatDoorPzR
import Derived.Test.YtgllbagmmpicaaaGreatDoorPxW
namespace Go.Proofs.YtgllbagmmpicaaaGreatDoor.Px
open Go.RowKit
open Civ

theorem parse_at {l : List UInt8} {p : Pos} {c : Int} (h : finG rfF l = (p, c)) (w : World) (hE : EnvAt w) :
    Calls Tryz.prog 11 #[.string (bs l)] w fun e w' => e = .returned (.tuple #[p.val, .int .i64 c]) ∧ Below w.heap.size w w' := by
  have := parse_any l w hE
  rw [fin_two, h] at this
  exact this
set_option maxHeartbeats 1000000 in
theorem reads_at {l want : List UInt8} {p : Pos} (h : finG rfF l = (p, 0)) (h2 : printP p = (want, 0)) (hs : p.std.size ≤ 1000) (hd : p.dst.size ≤ 1000) (w : World) (hE : EnvAt w) :
    Calls Tryz.prog 22 #[.string (bs l), .string (bs want)] w fun e w' => e = .returned (.bool true) ∧ Below w.heap.size w w' := by
  have CP := Lib.hid (fun w hE => parse_at h w hE)
  have CT := Lib.hid (fun w hE => prt_any p hs hd w hE)
  rw [h2] at CT
  obtain ⟨a, b, c, d, ⟨k1, d1, m1, w1, s1⟩, ⟨k2, d2, m2, w2, s2⟩⟩ := p
  unfold Pos.val at CP CT
  dsimp only at CP CT
  have HE := Lib.hid hE
  clear h h2 hs hd hE
  go_enter Tryz.func22, Tryz.ntmps22
  go_wp2_with fail
  refine (CP.out _ HE.out).mono ?_
  rintro _ V ⟨rfl, hb⟩
  have HB := Lib.hid hb
  clear hb
  go_wp2_with fail
  have HB1 := Lib.hid (HB.out.alloc HB.out.size (.cells #[.string a, .int .i64 b, .string c, .int .i64 d, .int .i64 k1, .int .i64 d1, .int .i64 m1, .int .i64 w1, .int .i64 s1, .int .i64 k2, .int .i64 d2, .int .i64 m2, .int .i64 w2, .int .i64 s2] 25))
  refine (CT.out _ (HE.out.keep HB1.out)).mono ?_
  rintro _ V2 ⟨rfl, hb⟩
  have HB2 := Lib.hid (HB1.out.trans (hb.mono HB1.out.size))
  clear hb
  go_wp2_with fail
  go_ret
  exact ⟨rfl, HB2.out⟩
set_option maxHeartbeats 1000000 in
theorem at_at {l : List UInt8} {p : Pos} {t o : Int} {b : Bool} {n : ByteArray} (h : finG rfF l = (p, 0)) (h2 : atP p t = (Loc o b n, 0)) (hs : p.std.size ≤ 1000) (hd : p.dst.size ≤ 1000) (w : World) (hE : EnvAt w) :
    Calls Tryz.prog 23 #[.string (bs l), .int .i64 t] w fun e w' => e = .returned (.agg #[.int .i64 o, .bool b, .string n]) ∧ Below w.heap.size w w' := by
  have CP := Lib.hid (fun w hE => parse_at h w hE)
  have CT := Lib.hid (fun w hB hK => at_any p t (by omega) (by omega) w hB hK)
  rw [h2] at CT
  obtain ⟨a, b', c, d, ⟨k1, d1, m1, w1, s1⟩, ⟨k2, d2, m2, w2, s2⟩⟩ := p
  unfold Pos.val at CP CT
  unfold Loc at CT
  dsimp only at CP CT
  have HE := Lib.hid hE
  clear h h2 hs hd hE
  go_enter Tryz.func23, Tryz.ntmps23
  go_wp2_with fail
  have HA := Lib.hid ((Below.refl _ w).alloc (Nat.le_refl _) (.cells #[.int .i64 0, .bool false, .string ⟨#[]⟩] 35))
  have HRES := Lib.hid (heap_new w (.cells #[.int .i64 0, .bool false, .string ⟨#[]⟩] 35 (0, 0)))
  refine (CP.out _ (HE.out.keep HA.out)).mono ?_
  rintro _ V ⟨rfl, hb⟩
  have HB := Lib.hid (HA.out.trans (hb.mono HA.out.size))
  have HR := Lib.hid (heap_keep HRES.out hb)
  clear hb
  go_wp2_with fail
  have HB1 := Lib.hid (HB.out.alloc HB.out.size (.cells #[.string a, .int .i64 b', .string c, .int .i64 d, .int .i64 k1, .int .i64 d1, .int .i64 m1, .int .i64 w1, .int .i64 s1, .int .i64 k2, .int .i64 d2, .int .i64 m2, .int .i64 w2, .int .i64 s2] 25))
  have HEV := Lib.hid (HE.out.keep HB1.out)
  refine (CT.out _ HEV.out.before HEV.out.kinds).mono ?_
  rintro _ V2 ⟨rfl, hb⟩
  have HB2 := Lib.hid (HB1.out.trans (hb.mono HB1.out.size))
  have hr2 := heap_keep (heap_old HR.out _) hb
  have hz : w.heap.size < V2.heap.size := lt_of_block hr2
  obtain ⟨⟨r0, r1, r2⟩, f0, f1, f2⟩ := row3 hr2
  clear hb hr2
  go_wp2_with fail
  refine bodyPost_ret (v := .agg #[.int .i64 o, .bool b, .string n]) (by simp [results, Tryz.results23, go_sem, r0, r1, r2, hz]) rfl ⟨rfl, ?_⟩
  exact (((HB2.out.setCell (by simp) _).setCell (by simp) _).setCell (by simp) _).alloc (by simp; omega) _
end Go.Proofs.YtgllbagmmpicaaaGreatDoor.Px
