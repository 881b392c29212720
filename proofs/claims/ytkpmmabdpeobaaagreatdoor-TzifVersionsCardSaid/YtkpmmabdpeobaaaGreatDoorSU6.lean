/- The function posix.At at a TZ with daylight saving time: the local time of the last event that is not behind the instant. The function posix.At at any TZ and instant. -/
import Derived.Test.YtkpmmabdpeobaaaGreatDoorSU5
import Derived.Deep.RegionWith
import Derived.Deep.RegionHeld3
namespace Go.Proofs.YtkpmmabdpeobaaaGreatDoor.Px
open Go.RowKit
open Civ
theorem day5 (k d m x s y : Int) (hd : Dt.ok ⟨k, d, m, x, s⟩ = true) (h0 : -2000000000 ≤ y) (h1 : y ≤ 2000000000) (w : World) (hB : BeforeAt w) (hK : KindsAt w) :
 Calls Tryz.prog 152 #[.agg #[.int .i64 k, .int .i64 d, .int .i64 m, .int .i64 x, .int .i64 s], .int .i64 y] w fun e w' => e = .returned (.int .i64 (dayD ⟨k, d, m, x, s⟩ y)) ∧ Below w.heap.size w w' :=
 day_any ⟨k, d, m, x, s⟩ y hd h0 h1 w hB hK
structure PrInv (w : World) (P : Array Value) (R S : Nat) (z : Array Value) (wr : World) : Prop where
 below : Below w.heap.size w wr
 row : RowAt wr w.heap.size P
 res : wr.heap[R]? = some (.cells #[.int .i64 0, .bool false, .string ⟨#[]⟩] 28 (0, 0))
 last : wr.heap[S]? = some (.cells z 191 (0, 0))
theorem PrInv.keep {w : World} {P : Array Value} {R S : Nat} {z : Array Value} {wr W : World} (h : PrInv w P R S z wr) (hB : Below wr.heap.size wr W) : PrInv w P R S z W :=
 ⟨h.below.trans (hB.mono h.below.size), h.row.keep hB, heap_keep h.res hB, heap_keep h.last hB⟩
theorem PrInv.set {w : World} {P : Array Value} {R S : Nat} {z : Array Value} {wr : World} (h : PrInv w P R S z wr) (hw : w.heap.size < S) (hR : R < S) (i : Nat) (u : Value) :
 PrInv w P R S (z.setIfInBounds i u) (wr.setCell ⟨S, i, none⟩ u) :=
 ⟨h.below.setCell (by show w.heap.size ≤ S; omega) u, ⟨by simpa using h.row.1, fun j => (cell_other _ (by omega)).trans (h.row.2 j)⟩, (Below.heap_setCell _ _ _ _ (by show R ≠ S; omega)).trans h.res, cells_set h.last i u⟩
theorem RowAt.set {W : World} {b S : Nat} {cs : Array Value} (h : RowAt W b cs) (hne : b ≠ S) (i : Nat) (u : Value) : RowAt (W.setCell ⟨S, i, none⟩ u) b cs :=
 ⟨by simpa using h.1, fun j => (cell_other _ hne).trans (h.2 j)⟩
theorem prS {W X : World} {B : Nat} {a c : ByteArray} {b d k1 d1 m1 w1 s1 k2 d2 m2 w2 s2 : Int} (h : RowAt W B #[.string a, .int .i64 b, .string c, .int .i64 d, .int .i64 k1, .int .i64 d1, .int .i64 m1, .int .i64 w1, .int .i64 s1, .int .i64 k2, .int .i64 d2, .int .i64 m2, .int .i64 w2, .int .i64 s2]) (hB : Below W.heap.size W X) :
 X.cell? ⟨B, 1, none⟩ = some (.int .i64 b) ∧ X.cell? ⟨B, 3, none⟩ = some (.int .i64 d) ∧ X.cell? ⟨B, 4, none⟩ = some (.int .i64 k1) ∧ X.cell? ⟨B, 5, none⟩ = some (.int .i64 d1) ∧ X.cell? ⟨B, 6, none⟩ = some (.int .i64 m1) ∧ X.cell? ⟨B, 7, none⟩ = some (.int .i64 w1) ∧ X.cell? ⟨B, 8, none⟩ = some (.int .i64 s1) ∧ X.cell? ⟨B, 9, none⟩ = some (.int .i64 k2) ∧ X.cell? ⟨B, 10, none⟩ = some (.int .i64 d2) ∧ X.cell? ⟨B, 11, none⟩ = some (.int .i64 m2) ∧ X.cell? ⟨B, 12, none⟩ = some (.int .i64 w2) ∧ X.cell? ⟨B, 13, none⟩ = some (.int .i64 s2) ∧ Below W.heap.size W X := by
 obtain ⟨_, c1, _, c3, c4, c5, c6, c7, c8, c9, c10, c11, c12, c13⟩ := (h.keep hB).pos
 exact ⟨c1, c3, c4, c5, c6, c7, c8, c9, c10, c11, c12, c13, hB⟩
theorem below_drew (w : World) : Below w.heap.size w w.drew := ⟨rfl, rfl, rfl, Nat.le_refl _, fun _ _ => rfl⟩
set_option maxHeartbeats 8000000 in
set_option maxRecDepth 100000 in
theorem at_dst (a c : ByteArray) (b d k1 d1 m1 w1 s1 k2 d2 m2 w2 s2 : Int) (t : Int) (t0 : -36028797018963968 ≤ t) (t1 : t ≤ 36028797018963968) (ha : a.size ≤ 1000000) (hc : c.size ≤ 1000000) (hne : c.toList.isEmpty = false)
 (h1 : Dt.ok ⟨k1, d1, m1, w1, s1⟩ = true) (h2 : Dt.ok ⟨k2, d2, m2, w2, s2⟩ = true) (o1 : offB b = true) (o2 : offB d = true) (hp : Pos.ok ⟨a, b, c, d, ⟨k1, d1, m1, w1, s1⟩, ⟨k2, d2, m2, w2, s2⟩⟩ = true) (w : World) (hBA : BeforeAt w) (hKA : KindsAt w) :
 Calls Tryz.prog 106 #[.agg #[.string a, .int .i64 b, .string c, .int .i64 d, .int .i64 k1, .int .i64 d1, .int .i64 m1, .int .i64 w1, .int .i64 s1, .int .i64 k2, .int .i64 d2, .int .i64 m2, .int .i64 w2, .int .i64 s2], .int .i64 t] w fun e w' => e = .returned (.tuple #[.agg (locOf a c b d (lastP ⟨a, b, c, d, ⟨k1, d1, m1, w1, s1⟩, ⟨k2, d2, m2, w2, s2⟩⟩ t).2), .int .i64 0]) ∧ Below w.heap.size w w' := by
 have CC := Lib.hid (check_any ⟨a, b, c, d, ⟨k1, d1, m1, w1, s1⟩, ⟨k2, d2, m2, w2, s2⟩⟩ ha hc)
 rw [hp] at CC
 have CI := Lib.hid (in64 t (-36028797018963968) 36028797018963968 true (decide_eq_true ⟨t0, t1⟩))
 have CY := Lib.hid (fun w h => year_any t (by omega) (by omega) w h)
 have hyb : -2000000 * 1000 + 10 ≤ yearT t ∧ yearT t ≤ 2000000 * 1000 - 10 := by
  have hy := yearOf_ok (t / 86400)
  have hb : -1999999990 ≤ yearOf (t / 86400) ∧ yearOf (t / 86400) ≤ 1999999990 := by
   obtain ⟨a, b⟩ := hy
   unfold jan at a b
   omega
  unfold yearT
  rw [if_neg (by omega), if_neg (by omega)]
  omega
 have HL := Lib.hid (show lastP ⟨a, b, c, d, ⟨k1, d1, m1, w1, s1⟩, ⟨k2, d2, m2, w2, s2⟩⟩ t = foldY (twoP ⟨a, b, c, d, ⟨k1, d1, m1, w1, s1⟩, ⟨k2, d2, m2, w2, s2⟩⟩ t) ev0 (yearT t - 2) 5 from rfl)
 obtain ⟨Y, hY⟩ : ∃ Y, yearT t = Y := ⟨_, rfl⟩
 rw [hY] at CY HL hyb
 obtain ⟨y0, y1⟩ := hyb
 have O1 := offB_iff.1 o1
 have O2 := offB_iff.1 o2
 obtain ⟨o10, o11⟩ := O1
 obtain ⟨o20, o21⟩ := O2
 have S1 := ((Dt.ok_iff _).1 h1).1
 have S2 := ((Dt.ok_iff _).1 h2).1
 obtain ⟨s10, s11⟩ := S1
 obtain ⟨s20, s21⟩ := S2
 dsimp only at s10 s11 s20 s21
 have HO1 := Lib.hid h1
 have HO2 := Lib.hid h2
 obtain ⟨lb, hlb⟩ : ∃ l, (lastP ⟨a, b, c, d, ⟨k1, d1, m1, w1, s1⟩, ⟨k2, d2, m2, w2, s2⟩⟩ t).2 = l := ⟨_, rfl⟩
 rw [hlb]
 have HLB := Lib.hid hlb
 have HA := Lib.hid (((Below.refl _ w).alloc (Nat.le_refl _) (.cells #[.string a, .int .i64 b, .string c, .int .i64 d, .int .i64 k1, .int .i64 d1, .int .i64 m1, .int .i64 w1, .int .i64 s1, .int .i64 k2, .int .i64 d2, .int .i64 m2, .int .i64 w2, .int .i64 s2] 50)).alloc (by simp) (.cells #[.int .i64 0, .bool false, .string ⟨#[]⟩] 28))
 have HRW := Lib.hid ((rowAt_alloc w #[.string a, .int .i64 b, .string c, .int .i64 d, .int .i64 k1, .int .i64 d1, .int .i64 m1, .int .i64 w1, .int .i64 s1, .int .i64 k2, .int .i64 d2, .int .i64 m2, .int .i64 w2, .int .i64 s2] 50).keep ((Below.refl _ _).alloc (Nat.le_refl _) (.cells #[.int .i64 0, .bool false, .string ⟨#[]⟩] 28)))
 have HBA := Lib.hid hBA
 have HKA := Lib.hid hKA
 clear hp h1 h2 o1 o2 hY hlb hBA hKA
 go_enter Tryz.func106, Tryz.ntmps106
 go_wp2_with fail
 refine (CC.out _).mono ?_
 rintro e V ⟨rfl, hb⟩
 rw [show codeE true = 0 from rfl]
 have hres := heap_keep (b := w.heap.size + 1) (x := .cells #[.int .i64 0, .bool false, .string ⟨#[]⟩] 28 (0, 0)) (by rw [← show (w.alloc (.cells #[.string a, .int .i64 b, .string c, .int .i64 d, .int .i64 k1, .int .i64 d1, .int .i64 m1, .int .i64 w1, .int .i64 s1, .int .i64 k2, .int .i64 d2, .int .i64 m2, .int .i64 w2, .int .i64 s2] 50)).heap.size = w.heap.size + 1 by simp]; exact heap_new _ _) hb
 have hrow := HRW.out.keep hb
 have HV := Lib.hid (HA.out.trans (hb.mono HA.out.size))
 obtain ⟨c0, c1, c2, c3, c4, c5, c6, c7, c8, c9, c10, c11, c12, c13⟩ := hrow.pos
 have HRES := Lib.hid hres
 have HROW := Lib.hid hrow
 have hz1 : w.heap.size + 1 < V.heap.size := lt_of_block hres
 have hz0 : w.heap.size < V.heap.size := by omega
 clear hb hres hrow
 go_wp2_with fail
 refine (CI.out _).mono ?_
 rintro e w' ⟨rfl, rfl⟩
 go_wp2_with fail
 have HAV := Lib.hid (HV.out.alloc (Nat.le_of_lt hz0) (.cells #[.int .i64 (-4611686018427387904), .bool false] 191))
 refine (CY.out _ (HBA.out.keep HAV.out)).mono ?_
 rintro e V2 ⟨rfl, hb⟩
 have hV2 : Below V.heap.size V V2 := ((Below.refl _ V).alloc (Nat.le_refl _) _).trans (hb.mono (by simp))
 have HLAST := Lib.hid (heap_keep (heap_new V (.cells #[.int .i64 (-4611686018427387904), .bool false] 191)) hb)
 have HB2 := Lib.hid hV2
 have hz2 : V.heap.size < V2.heap.size := lt_of_block HLAST.out
 have hz3 : w.heap.size < V2.heap.size := by omega
 clear hb hV2 c0 c1 c2 c3 c4 c5 c6 c7 c8 c9 c10 c11 c12 c13
 go_wp2_with fail
 go_loopw [8] (fun y wr => ∃ (k : Nat) (s : Ev), k ≤ 5 ∧ y = .int .i64 (Y - 2 + k) ∧ s = foldY (twoP ⟨a, b, c, d, ⟨k1, d1, m1, w1, s1⟩, ⟨k2, d2, m2, w2, s2⟩⟩ t) ev0 (Y - 2) k ∧
  PrInv w #[.string a, .int .i64 b, .string c, .int .i64 d, .int .i64 k1, .int .i64 d1, .int .i64 m1, .int .i64 w1, .int .i64 s1, .int .i64 k2, .int .i64 d2, .int .i64 m2, .int .i64 w2, .int .i64 s2] (w.heap.size + 1) V.heap.size #[.int .i64 s.1, .bool s.2] wr) (fun y _ => (Y + 3 - intOf y).toNat)
 case atStart => exact ⟨0, ev0, by omega, by simp, rfl, ⟨HV.out.trans (HB2.out.mono HV.out.size), HROW.out.keep HB2.out, heap_keep HRES.out HB2.out, HLAST.out⟩⟩
 case round =>
  obtain ⟨k, s, hk, rfl, hs, inv⟩ := hrel
  have HI := Lib.hid inv
  have HS := Lib.hid hs
  have hwz : w.heap.size < wr.heap.size := inv.row.1
  obtain ⟨c0, c1, c2, c3, c4, c5, c6, c7, c8, c9, c10, c11, c12, c13⟩ := inv.row.pos
  clear inv hs
  obtain ⟨yv, hyv⟩ : ∃ yv, Y - 2 + (k : Int) = yv := ⟨_, rfl⟩
  have hy0 : -1999999999 ≤ yv := by omega
  have hy1 : yv ≤ 1999999999 := by omega
  have HYV := Lib.hid hyv
  have HBR := Lib.hid (HBA.out.keep HI.out.below)
  have HKR := Lib.hid (HKA.out.keep HI.out.below)
  have bd1 := dayD_bd HO1.out yv
  have bd2 := dayD_bd HO2.out yv
  have bj := jan_bd (y := yv) (by omega) (by omega)
  obtain ⟨D1, hD1⟩ : ∃ D, dayD ⟨k1, d1, m1, w1, s1⟩ yv = D := ⟨_, rfl⟩
  obtain ⟨D2, hD2⟩ : ∃ D, dayD ⟨k2, d2, m2, w2, s2⟩ yv = D := ⟨_, rfl⟩
  rw [hD1] at bd1
  rw [hD2] at bd2
  have b10 : -2000000001000 ≤ D1 := by omega
  have b11 : D1 ≤ 2000000001000 := by omega
  have b20 : -2000000001000 ≤ D2 := by omega
  have b21 : D2 ≤ 2000000001000 := by omega
  have CD1 := Lib.hid (fun w hB hK => day5 k1 d1 m1 w1 s1 yv HO1.out (by omega) (by omega) w hB hK)
  rw [hD1] at CD1
  have CD2 := Lib.hid (fun w hB hK => day5 k2 d2 m2 w2 s2 yv HO2.out (by omega) (by omega) w hB hK)
  rw [hD2] at CD2
  have HD1 := Lib.hid hD1
  have HD2 := Lib.hid hD2
  clear bd1 bd2 bj hD1 hD2
  by_cases hlt : k < 5
  · have t7 : yv ≤ Y + 2 := by omega
    rw [hyv]
    clear hyv
    go_wp2_with fail
    have g1 := HD1.out
    have g2 := HD2.out
    have q1 : IntKind.i64.wrap (86400 * D1) = 86400 * D1 := IntWalk.i64_in _ (by omega)
    have q2 : IntKind.i64.wrap (86400 * D1 + s1) = 86400 * D1 + s1 := IntWalk.i64_in _ (by omega)
    have q3 : IntKind.i64.wrap (86400 * D1 + s1 - b) = 86400 * D1 + s1 - b := IntWalk.i64_in _ (by omega)
    have q4 : IntKind.i64.wrap (86400 * D2) = 86400 * D2 := IntWalk.i64_in _ (by omega)
    have q5 : IntKind.i64.wrap (86400 * D2 + s2) = 86400 * D2 + s2 := IntWalk.i64_in _ (by omega)
    have q6 : IntKind.i64.wrap (86400 * D2 + s2 - d) = 86400 * D2 + s2 - d := IntWalk.i64_in _ (by omega)
    go_cut [63, 64, 65] (fun v n i wx => ∃ B : Nat, v = .slice (some ⟨B, 0, none⟩) 2 2 ∧ n = .int .i64 2 ∧ i = .int .i64 0 ∧ Below wr.heap.size wr wx ∧ wr.heap.size ≤ B ∧ RowAt wx B #[.int .i64 (86400 * D1 + s1 - b), .bool true, .int .i64 (86400 * D2 + s2 - d), .bool false])
    case first =>
     go_region_held3 (fun w' => w'.cell? ⟨w.heap.size, 1, none⟩ = some (.int .i64 b) ∧ w'.cell? ⟨w.heap.size, 3, none⟩ = some (.int .i64 d) ∧ w'.cell? ⟨w.heap.size, 4, none⟩ = some (.int .i64 k1) ∧ w'.cell? ⟨w.heap.size, 5, none⟩ = some (.int .i64 d1) ∧ w'.cell? ⟨w.heap.size, 6, none⟩ = some (.int .i64 m1) ∧ w'.cell? ⟨w.heap.size, 7, none⟩ = some (.int .i64 w1) ∧ w'.cell? ⟨w.heap.size, 8, none⟩ = some (.int .i64 s1) ∧ w'.cell? ⟨w.heap.size, 9, none⟩ = some (.int .i64 k2) ∧ w'.cell? ⟨w.heap.size, 10, none⟩ = some (.int .i64 d2) ∧ w'.cell? ⟨w.heap.size, 11, none⟩ = some (.int .i64 m2) ∧ w'.cell? ⟨w.heap.size, 12, none⟩ = some (.int .i64 w2) ∧ w'.cell? ⟨w.heap.size, 13, none⟩ = some (.int .i64 s2) ∧ Below wr.heap.size wr w')
      (first | exact prS HI.out.row HX1.out | exact prS HI.out.row (HX1.out.alloc HX1.out.size _) | exact prS HI.out.row HX0.out | exact prS HI.out.row (below_drew _))
      (first
       | (go_at_call_of 152 (Value.agg #[.int .i64 k1, .int .i64 d1, .int .i64 m1, .int .i64 w1, .int .i64 s1]); refine (CD1.out _ (HBR.out.keep HX0.out) (HKR.out.keep HX0.out)).mono ?_; rintro e X ⟨rfl, hb⟩; have HX1 := Lib.hid (HX0.out.trans (hb.mono HX0.out.size)); clear hb)
       | (go_at_call_of 152 (Value.agg #[.int .i64 k2, .int .i64 d2, .int .i64 m2, .int .i64 w2, .int .i64 s2]); refine (CD2.out _ (HBR.out.keep HX0.out) (HKR.out.keep HX0.out)).mono ?_; rintro e X ⟨rfl, hb⟩; have HX1 := Lib.hid (HX0.out.trans (hb.mono HX0.out.size)); clear hb)
       | (go_at_call_of 152 (Value.agg #[.int .i64 k1, .int .i64 d1, .int .i64 m1, .int .i64 w1, .int .i64 s1]); refine (CD1.out _ (HBR.out.keep (below_drew _)) (HKR.out.keep (below_drew _))).mono ?_; rintro e X ⟨rfl, hb⟩; have HX0 : Hid (Below wr.heap.size wr X) := Lib.hid (below_over hb rfl rfl rfl rfl); clear hb)
       | (go_at_call_of 152 (Value.agg #[.int .i64 k2, .int .i64 d2, .int .i64 m2, .int .i64 w2, .int .i64 s2]); refine (CD2.out _ (HBR.out.keep (below_drew _)) (HKR.out.keep (below_drew _))).mono ?_; rintro e X ⟨rfl, hb⟩; have HX0 : Hid (Below wr.heap.size wr X) := Lib.hid (below_over hb rfl rfl rfl rfl); clear hb))
     all_goals
      go_wp2_with fail
      go_meet
      refine ⟨_, rfl, rfl, rfl, HX1.out.alloc HX1.out.size _, HX1.out.size, rowAt_alloc _ _ _⟩
    case rest =>
     obtain ⟨Q, rfl, rfl, rfl, hb1, hQ, hRQ⟩ := hcut
     have HIC := Lib.hid (HI.out.keep hb1)
     have HRQ := Lib.hid hRQ
     have hSr : V.heap.size < wr.heap.size := lt_of_block HI.out.last
     have hQ1 : Q < wc.heap.size := hRQ.1
     have HB := Lib.hid (show 86400 * D1 + s1 - b = begI ⟨a, b, c, d, ⟨k1, d1, m1, w1, s1⟩, ⟨k2, d2, m2, w2, s2⟩⟩ (Y - 2 + k) by rw [HYV.out]; unfold begI; dsimp only; rw [HD1.out])
     have HE := Lib.hid (show 86400 * D2 + s2 - d = endI ⟨a, b, c, d, ⟨k1, d1, m1, w1, s1⟩, ⟨k2, d2, m2, w2, s2⟩⟩ (Y - 2 + k) by rw [HYV.out]; unfold endI; dsimp only; rw [HD2.out])
     obtain ⟨B, hB⟩ : ∃ B, 86400 * D1 + s1 - b = B := ⟨_, rfl⟩
     obtain ⟨E, hE⟩ : ∃ E, 86400 * D2 + s2 - d = E := ⟨_, rfl⟩
     rw [hB] at HB HRQ
     rw [hE] at HE HRQ
     clear hB hE hb1 hRQ CD1 CD2 q1 q2 q3 q4 q5 q6 g1 g2 c0 c1 c2 c3 c4 c5 c6 c7 c8 c9 c10 c11 c12 c13
     have HF := Lib.hid (show foldY (twoP ⟨a, b, c, d, ⟨k1, d1, m1, w1, s1⟩, ⟨k2, d2, m2, w2, s2⟩⟩ t) ev0 (Y - 2) (k + 1) = stepL t (stepL t s (B, true)) (E, false) by
      show twoP _ _ (foldY _ _ _ k) _ = _
      rw [← HS.out]; unfold twoP; rw [← HB.out, ← HE.out])
     have HYN := Lib.hid (show Value.int .i64 (yv + 1) = Value.int .i64 (Y - 2 + ((k + 1 : Nat) : Int)) from congrArg (Value.int .i64) (by have := HYV.out; omega))
     obtain ⟨wq, rfl⟩ : ∃ wq, wq = wc := ⟨_, rfl⟩
     obtain ⟨wo, rfl⟩ : ∃ wo, wo = wr := ⟨_, rfl⟩
     go_wp2_with fail
     go_loopw [65] (fun i wx => ∃ r : Ev, ((i = .int .i64 0 ∧ r = s) ∨ (i = .int .i64 1 ∧ r = stepL t s (B, true)) ∨ (i = .int .i64 2 ∧ r = stepL t (stepL t s (B, true)) (E, false))) ∧
      PrInv w #[.string a, .int .i64 b, .string c, .int .i64 d, .int .i64 k1, .int .i64 d1, .int .i64 m1, .int .i64 w1, .int .i64 s1, .int .i64 k2, .int .i64 d2, .int .i64 m2, .int .i64 w2, .int .i64 s2] (w.heap.size + 1) V.heap.size #[.int .i64 r.1, .bool r.2] wx ∧ RowAt wx Q #[.int .i64 B, .bool true, .int .i64 E, .bool false]) (fun i _ => (2 - intOf i).toNat)
     case atStart => exact ⟨s, .inl ⟨rfl, rfl⟩, HIC.out, HRQ.out⟩
     case round =>
      obtain ⟨r, hr, hP, hR⟩ := hrel
      have hSx : V.heap.size < wr.heap.size := lt_of_block hP.last
      have hQx : Q < wr.heap.size := hR.1
      have hwr : w.heap.size < wr.heap.size := hP.row.1
      have y0 : wr.cell? ⟨Q, 0, none⟩ = some (.int .i64 B) := hR.2 0
      have y1 : wr.cell? ⟨Q, 1, none⟩ = some (.bool true) := hR.2 1
      have y2 : wr.cell? ⟨Q, 2, none⟩ = some (.int .i64 E) := hR.2 2
      have y3 : wr.cell? ⟨Q, 3, none⟩ = some (.bool false) := hR.2 3
      obtain ⟨rl, rd⟩ := r
      have l0 : wr.cell? ⟨V.heap.size, 0, none⟩ = some (.int .i64 rl) := by have := hP.last; unfold World.cell?; dsimp only; rw [this]; rfl
      have l1 : wr.cell? ⟨V.heap.size, 1, none⟩ = some (.bool rd) := by have := hP.last; unfold World.cell?; dsimp only; rw [this]; rfl
      have HP := Lib.hid hP
      have HR := Lib.hid hR
      clear hP hR
      rcases hr with ⟨rfl, hr⟩ | ⟨rfl, hr⟩ | ⟨rfl, hr⟩
      · have HRr := Lib.hid hr
        clear hr
        have HWA : Hid (Below wr.heap.size wr (wr.alloc (.cells #[.int .i64 B, .bool true] 191))) := Lib.hid ((Below.refl _ wr).alloc (Nat.le_refl _) _)
        by_cases a1 : B ≤ t
        · by_cases a2 : rl < B ∨ (B = rl ∧ true = true)
          · have HA2 := Lib.hid a2
            have CM := Lib.hid (later_any B rl true rd true (decide_eq_true a2))
            go_wp2_with fail
            refine (CM.out _).mono ?_
            rintro e X ⟨rfl, hb⟩
            have x0 : X.cell? ⟨wr.heap.size, 0, none⟩ = some (.int .i64 B) := ((rowAt_alloc wr #[.int .i64 B, .bool true] 191).keep hb).2 0
            have x1 : X.cell? ⟨wr.heap.size, 1, none⟩ = some (.bool true) := ((rowAt_alloc wr #[.int .i64 B, .bool true] 191).keep hb).2 1
            have HXB := Lib.hid (HWA.out.trans (hb.mono HWA.out.size))
            have z0 := keep_cell l0 HXB.out
            have z1 := keep_cell l1 HXB.out
            have HPX := Lib.hid (HP.out.keep HXB.out)
            have g0 : X.frozen? ⟨V.heap.size, 0, none⟩ = false := free_at HPX.out.last 0
            have g1 : X.frozen? ⟨V.heap.size, 1, none⟩ = false := free_at HPX.out.last 1
            have HRX := Lib.hid (HR.out.keep HXB.out)
            clear hb l0 l1 y0 y1 y2 y3
            go_wp2_with fail
            exact ⟨⟨(B, true), .inr (.inl ⟨rfl, by rw [← HRr.out, stepL_pos (s := (rl, rd)) (b := (B, true)) ⟨a1, by simpa using HA2.out⟩]⟩), (HPX.out.set hz0 hz1 0 (.int .i64 B)).set hz0 hz1 1 (.bool true), (HRX.out.set (by omega) 0 (.int .i64 B)).set (by omega) 1 (.bool true)⟩, by decide⟩
          · have HA2 := Lib.hid a2
            have CM := Lib.hid (later_any B rl true rd false (decide_eq_false a2))
            go_wp2_with fail
            refine (CM.out _).mono ?_
            rintro e X ⟨rfl, hb⟩
            have HXB := Lib.hid (HWA.out.trans (hb.mono HWA.out.size))
            clear hb l0 l1 y0 y1 y2 y3
            go_wp2_with fail
            exact ⟨⟨(rl, rd), .inr (.inl ⟨rfl, by rw [← HRr.out, stepL_neg (s := (rl, rd)) (b := (B, true)) (fun h => HA2.out (by simpa using h.2))]⟩), HP.out.keep HXB.out, HR.out.keep HXB.out⟩, by decide⟩
        · go_wp2_with fail
          exact ⟨⟨(rl, rd), .inr (.inl ⟨rfl, by rw [← HRr.out, stepL_neg (s := (rl, rd)) (b := (B, true)) (fun h => a1 h.1)]⟩), HP.out.keep HWA.out, HR.out.keep HWA.out⟩, by decide⟩
      · have HRr := Lib.hid hr
        clear hr
        have HWA : Hid (Below wr.heap.size wr (wr.alloc (.cells #[.int .i64 E, .bool false] 191))) := Lib.hid ((Below.refl _ wr).alloc (Nat.le_refl _) _)
        by_cases a1 : E ≤ t
        · by_cases a2 : rl < E ∨ (E = rl ∧ false = true)
          · have HA2 := Lib.hid a2
            have CM := Lib.hid (later_any E rl false rd true (decide_eq_true a2))
            go_wp2_with fail
            refine (CM.out _).mono ?_
            rintro e X ⟨rfl, hb⟩
            have x0 : X.cell? ⟨wr.heap.size, 0, none⟩ = some (.int .i64 E) := ((rowAt_alloc wr #[.int .i64 E, .bool false] 191).keep hb).2 0
            have x1 : X.cell? ⟨wr.heap.size, 1, none⟩ = some (.bool false) := ((rowAt_alloc wr #[.int .i64 E, .bool false] 191).keep hb).2 1
            have HXB := Lib.hid (HWA.out.trans (hb.mono HWA.out.size))
            have z0 := keep_cell l0 HXB.out
            have z1 := keep_cell l1 HXB.out
            have HPX := Lib.hid (HP.out.keep HXB.out)
            have g0 : X.frozen? ⟨V.heap.size, 0, none⟩ = false := free_at HPX.out.last 0
            have g1 : X.frozen? ⟨V.heap.size, 1, none⟩ = false := free_at HPX.out.last 1
            have HRX := Lib.hid (HR.out.keep HXB.out)
            clear hb l0 l1 y0 y1 y2 y3
            go_wp2_with fail
            exact ⟨⟨(E, false), .inr (.inr ⟨rfl, by rw [← HRr.out, stepL_pos (s := (rl, rd)) (b := (E, false)) ⟨a1, by simpa using HA2.out⟩]⟩), (HPX.out.set hz0 hz1 0 (.int .i64 E)).set hz0 hz1 1 (.bool false), (HRX.out.set (by omega) 0 (.int .i64 E)).set (by omega) 1 (.bool false)⟩, by decide⟩
          · have HA2 := Lib.hid a2
            have CM := Lib.hid (later_any E rl false rd false (decide_eq_false a2))
            go_wp2_with fail
            refine (CM.out _).mono ?_
            rintro e X ⟨rfl, hb⟩
            have HXB := Lib.hid (HWA.out.trans (hb.mono HWA.out.size))
            clear hb l0 l1 y0 y1 y2 y3
            go_wp2_with fail
            exact ⟨⟨(rl, rd), .inr (.inr ⟨rfl, by rw [← HRr.out, stepL_neg (s := (rl, rd)) (b := (E, false)) (fun h => HA2.out (by simpa using h.2))]⟩), HP.out.keep HXB.out, HR.out.keep HXB.out⟩, by decide⟩
        · go_wp2_with fail
          exact ⟨⟨(rl, rd), .inr (.inr ⟨rfl, by rw [← HRr.out, stepL_neg (s := (rl, rd)) (b := (E, false)) (fun h => a1 h.1)]⟩), HP.out.keep HWA.out, HR.out.keep HWA.out⟩, by decide⟩
      · have HRr := Lib.hid hr
        clear hr l0 l1 y0 y1 y2 y3
        have q1 : IntKind.i64.wrap (yv + 1) = yv + 1 := IntWalk.i64_in _ (by omega)
        go_wp2_with fail
        exact ⟨⟨k + 1, (rl, rd), by omega, HYN.out, by rw [HF.out, ← HRr.out], HP.out⟩, by simp [intOf]; omega⟩
  · obtain rfl : k = 5 := by omega
    have t8 : Y + 2 < yv := by omega
    rw [hyv]
    clear hyv
    have hsd : s.2 = lb := by rw [HS.out, ← HL.out, HLB.out]
    have hL := HI.out.last
    rw [hsd] at hL
    have l1 : wr.cell? ⟨V.heap.size, 1, none⟩ = some (.bool lb) := cells_at hL 1
    obtain ⟨⟨r0, r1, r2⟩, fr0, fr1, fr2⟩ := row3 HI.out.res
    have HBW := Lib.hid HI.out.below
    clear hsd hL CD1 CD2
    cases lb
    · go_wp2_with fail
      refine bodyPost_ret (v := .tuple #[.agg #[.int .i64 b, .bool false, .string a], .int .i64 0]) (by simp [results, Tryz.results106, go_sem, r0, r1, r2]) rfl ⟨rfl, ?_⟩
      exact ((HBW.out.setCell (by simp) _).setCell (by simp) _).setCell (by simp) _
    · go_wp2_with fail
      refine bodyPost_ret (v := .tuple #[.agg #[.int .i64 d, .bool true, .string c], .int .i64 0]) (by simp [results, Tryz.results106, go_sem, r0, r1, r2]) rfl ⟨rfl, ?_⟩
      exact ((HBW.out.setCell (by simp) _).setCell (by simp) _).setCell (by simp) _
end Go.Proofs.YtkpmmabdpeobaaaGreatDoor.Px
namespace Go.Proofs.YtkpmmabdpeobaaaGreatDoor.Px
open Go.RowKit
open Civ
set_option maxHeartbeats 4000000 in
set_option maxRecDepth 100000 in
theorem at_bad (a c : ByteArray) (b d k1 d1 m1 w1 s1 k2 d2 m2 w2 s2 : Int) (t : Int) (ha : a.size ≤ 1000000) (hc : c.size ≤ 1000000) (hp : Pos.ok ⟨a, b, c, d, ⟨k1, d1, m1, w1, s1⟩, ⟨k2, d2, m2, w2, s2⟩⟩ = false) (w : World) :
 Calls Tryz.prog 106 #[.agg #[.string a, .int .i64 b, .string c, .int .i64 d, .int .i64 k1, .int .i64 d1, .int .i64 m1, .int .i64 w1, .int .i64 s1, .int .i64 k2, .int .i64 d2, .int .i64 m2, .int .i64 w2, .int .i64 s2], .int .i64 t] w fun e w' => e = .returned (.tuple #[Loc 0 false ⟨#[]⟩, .int .i64 2]) ∧ Below w.heap.size w w' := by
 have CC := Lib.hid (check_any ⟨a, b, c, d, ⟨k1, d1, m1, w1, s1⟩, ⟨k2, d2, m2, w2, s2⟩⟩ ha hc)
 rw [hp] at CC
 have HA := Lib.hid (((Below.refl _ w).alloc (Nat.le_refl _) (.cells #[.string a, .int .i64 b, .string c, .int .i64 d, .int .i64 k1, .int .i64 d1, .int .i64 m1, .int .i64 w1, .int .i64 s1, .int .i64 k2, .int .i64 d2, .int .i64 m2, .int .i64 w2, .int .i64 s2] 50)).alloc (by simp) (.cells #[.int .i64 0, .bool false, .string ⟨#[]⟩] 28))
 clear hp
 go_enter Tryz.func106, Tryz.ntmps106
 go_wp2_with fail
 refine (CC.out _).mono ?_
 rintro e V ⟨rfl, hb⟩
 rw [show codeE false = 2 from rfl]
 have hres := heap_keep (b := w.heap.size + 1) (x := .cells #[.int .i64 0, .bool false, .string ⟨#[]⟩] 28 (0, 0)) (by rw [← show (w.alloc (.cells #[.string a, .int .i64 b, .string c, .int .i64 d, .int .i64 k1, .int .i64 d1, .int .i64 m1, .int .i64 w1, .int .i64 s1, .int .i64 k2, .int .i64 d2, .int .i64 m2, .int .i64 w2, .int .i64 s2] 50)).heap.size = w.heap.size + 1 by simp]; exact heap_new _ _) hb
 have HV := Lib.hid (HA.out.trans (hb.mono HA.out.size))
 obtain ⟨⟨r0, r1, r2⟩, f0, f1, f2⟩ := row3 hres
 clear hb hres
 go_wp2_with fail
 refine bodyPost_ret (v := .tuple #[Loc 0 false ⟨#[]⟩, .int .i64 2]) (by simp [results, Tryz.results106, go_sem, Loc, r0, r1, r2]) rfl ⟨rfl, ?_⟩
 exact ((HV.out.setCell (by simp) _).setCell (by simp) _).setCell (by simp) _
set_option maxHeartbeats 4000000 in
set_option maxRecDepth 100000 in
theorem at_range (a c : ByteArray) (b d k1 d1 m1 w1 s1 k2 d2 m2 w2 s2 : Int) (t : Int) (ht : t < -36028797018963968 ∨ 36028797018963968 < t) (ha : a.size ≤ 1000000) (hc : c.size ≤ 1000000) (hp : Pos.ok ⟨a, b, c, d, ⟨k1, d1, m1, w1, s1⟩, ⟨k2, d2, m2, w2, s2⟩⟩ = true) (w : World) :
 Calls Tryz.prog 106 #[.agg #[.string a, .int .i64 b, .string c, .int .i64 d, .int .i64 k1, .int .i64 d1, .int .i64 m1, .int .i64 w1, .int .i64 s1, .int .i64 k2, .int .i64 d2, .int .i64 m2, .int .i64 w2, .int .i64 s2], .int .i64 t] w fun e w' => e = .returned (.tuple #[Loc 0 false ⟨#[]⟩, .int .i64 3]) ∧ Below w.heap.size w w' := by
 have CC := Lib.hid (check_any ⟨a, b, c, d, ⟨k1, d1, m1, w1, s1⟩, ⟨k2, d2, m2, w2, s2⟩⟩ ha hc)
 rw [hp] at CC
 have CI := Lib.hid (in64 t (-36028797018963968) 36028797018963968 false (decide_eq_false (by omega)))
 have HA := Lib.hid (((Below.refl _ w).alloc (Nat.le_refl _) (.cells #[.string a, .int .i64 b, .string c, .int .i64 d, .int .i64 k1, .int .i64 d1, .int .i64 m1, .int .i64 w1, .int .i64 s1, .int .i64 k2, .int .i64 d2, .int .i64 m2, .int .i64 w2, .int .i64 s2] 50)).alloc (by simp) (.cells #[.int .i64 0, .bool false, .string ⟨#[]⟩] 28))
 clear hp ht
 go_enter Tryz.func106, Tryz.ntmps106
 go_wp2_with fail
 refine (CC.out _).mono ?_
 rintro e V ⟨rfl, hb⟩
 rw [show codeE true = 0 from rfl]
 have hres := heap_keep (b := w.heap.size + 1) (x := .cells #[.int .i64 0, .bool false, .string ⟨#[]⟩] 28 (0, 0)) (by rw [← show (w.alloc (.cells #[.string a, .int .i64 b, .string c, .int .i64 d, .int .i64 k1, .int .i64 d1, .int .i64 m1, .int .i64 w1, .int .i64 s1, .int .i64 k2, .int .i64 d2, .int .i64 m2, .int .i64 w2, .int .i64 s2] 50)).heap.size = w.heap.size + 1 by simp]; exact heap_new _ _) hb
 have HV := Lib.hid (HA.out.trans (hb.mono HA.out.size))
 obtain ⟨⟨r0, r1, r2⟩, f0, f1, f2⟩ := row3 hres
 clear hb hres
 go_wp2_with fail
 refine (CI.out _).mono ?_
 rintro e w' ⟨rfl, rfl⟩
 go_wp2_with fail
 refine bodyPost_ret (v := .tuple #[Loc 0 false ⟨#[]⟩, .int .i64 3]) (by simp [results, Tryz.results106, go_sem, Loc, r0, r1, r2]) rfl ⟨rfl, ?_⟩
 exact ((HV.out.setCell (by simp) _).setCell (by simp) _).setCell (by simp) _
set_option maxHeartbeats 4000000 in
set_option maxRecDepth 100000 in
theorem at_std (a c : ByteArray) (b d k1 d1 m1 w1 s1 k2 d2 m2 w2 s2 : Int) (t : Int) (t0 : -36028797018963968 ≤ t) (t1 : t ≤ 36028797018963968) (ha : a.size ≤ 1000000) (hc : c.size ≤ 1000000) (hne : c.toList.isEmpty = true) (hp : Pos.ok ⟨a, b, c, d, ⟨k1, d1, m1, w1, s1⟩, ⟨k2, d2, m2, w2, s2⟩⟩ = true) (w : World) (hBA : BeforeAt w) :
 Calls Tryz.prog 106 #[.agg #[.string a, .int .i64 b, .string c, .int .i64 d, .int .i64 k1, .int .i64 d1, .int .i64 m1, .int .i64 w1, .int .i64 s1, .int .i64 k2, .int .i64 d2, .int .i64 m2, .int .i64 w2, .int .i64 s2], .int .i64 t] w fun e w' => e = .returned (.tuple #[Loc b false a, .int .i64 0]) ∧ Below w.heap.size w w' := by
 have CC := Lib.hid (check_any ⟨a, b, c, d, ⟨k1, d1, m1, w1, s1⟩, ⟨k2, d2, m2, w2, s2⟩⟩ ha hc)
 rw [hp] at CC
 have CI := Lib.hid (in64 t (-36028797018963968) 36028797018963968 true (decide_eq_true ⟨t0, t1⟩))
 have CY := Lib.hid (fun w h => year_any t (by omega) (by omega) w h)
 have hyb : -2000000 * 1000 + 10 ≤ yearT t ∧ yearT t ≤ 2000000 * 1000 - 10 := by
  have hy := yearOf_ok (t / 86400)
  have hb : -1999999990 ≤ yearOf (t / 86400) ∧ yearOf (t / 86400) ≤ 1999999990 := by
   obtain ⟨a, b⟩ := hy
   unfold jan at a b
   omega
  unfold yearT
  rw [if_neg (by omega), if_neg (by omega)]
  omega
 obtain ⟨Y, hY⟩ : ∃ Y, yearT t = Y := ⟨_, rfl⟩
 rw [hY] at CY hyb
 obtain ⟨y0, y1⟩ := hyb
 have HA := Lib.hid (((Below.refl _ w).alloc (Nat.le_refl _) (.cells #[.string a, .int .i64 b, .string c, .int .i64 d, .int .i64 k1, .int .i64 d1, .int .i64 m1, .int .i64 w1, .int .i64 s1, .int .i64 k2, .int .i64 d2, .int .i64 m2, .int .i64 w2, .int .i64 s2] 50)).alloc (by simp) (.cells #[.int .i64 0, .bool false, .string ⟨#[]⟩] 28))
 have HRW := Lib.hid ((rowAt_alloc w #[.string a, .int .i64 b, .string c, .int .i64 d, .int .i64 k1, .int .i64 d1, .int .i64 m1, .int .i64 w1, .int .i64 s1, .int .i64 k2, .int .i64 d2, .int .i64 m2, .int .i64 w2, .int .i64 s2] 50).keep ((Below.refl _ _).alloc (Nat.le_refl _) (.cells #[.int .i64 0, .bool false, .string ⟨#[]⟩] 28)))
 have HBA := Lib.hid hBA
 have hne2 : c.toList = [] := List.isEmpty_iff.1 hne
 clear hp hY hBA hne
 go_enter Tryz.func106, Tryz.ntmps106
 go_wp2_with fail
 refine (CC.out _).mono ?_
 rintro e V ⟨rfl, hb⟩
 rw [show codeE true = 0 from rfl]
 have hres := heap_keep (b := w.heap.size + 1) (x := .cells #[.int .i64 0, .bool false, .string ⟨#[]⟩] 28 (0, 0)) (by rw [← show (w.alloc (.cells #[.string a, .int .i64 b, .string c, .int .i64 d, .int .i64 k1, .int .i64 d1, .int .i64 m1, .int .i64 w1, .int .i64 s1, .int .i64 k2, .int .i64 d2, .int .i64 m2, .int .i64 w2, .int .i64 s2] 50)).heap.size = w.heap.size + 1 by simp]; exact heap_new _ _) hb
 have HV := Lib.hid (HA.out.trans (hb.mono HA.out.size))
 have HRES := Lib.hid hres
 have HROW := Lib.hid (HRW.out.keep hb)
 have hz1 : w.heap.size + 1 < V.heap.size := lt_of_block hres
 have hz0 : w.heap.size < V.heap.size := by omega
 clear hb hres
 go_wp2_with fail
 refine (CI.out _).mono ?_
 rintro e w' ⟨rfl, rfl⟩
 go_wp2_with fail
 have HAV := Lib.hid (HV.out.alloc (Nat.le_of_lt hz0) (.cells #[.int .i64 (-4611686018427387904), .bool false] 191))
 refine (CY.out _ (HBA.out.keep HAV.out)).mono ?_
 rintro e V2 ⟨rfl, hb⟩
 have hV2 : Below V.heap.size V V2 := ((Below.refl _ V).alloc (Nat.le_refl _) _).trans (hb.mono (by simp))
 have HLAST := Lib.hid (heap_keep (heap_new V (.cells #[.int .i64 (-4611686018427387904), .bool false] 191)) hb)
 have HB2 := Lib.hid hV2
 have hz2 : V.heap.size < V2.heap.size := lt_of_block HLAST.out
 obtain ⟨⟨r0, r1, r2⟩, fr0, fr1, fr2⟩ := row3 (heap_keep HRES.out HB2.out)
 obtain ⟨c0, c1, c2, c3, c4, c5, c6, c7, c8, c9, c10, c11, c12, c13⟩ := (HROW.out.keep HB2.out).pos
 have l1 : V2.cell? ⟨V.heap.size, 1, none⟩ = some (.bool false) := cells_at HLAST.out 1
 have HBW := Lib.hid (HV.out.trans (HB2.out.mono HV.out.size))
 clear hb hV2
 go_wp2_with fail
 refine wp_loop_rounds 1 ?_
 rw [rounds_succ]
 go_wp2_with fail
 refine bodyPost_ret (v := .tuple #[Loc b false a, .int .i64 0]) (by simp [results, Tryz.results106, go_sem, Loc, r0, r1, r2]) rfl ⟨rfl, ?_⟩
 exact ((HBW.out.setCell (by simp) _).setCell (by simp) _).setCell (by simp) _
theorem at_any (p : Pos) (t : Int) (ha : p.std.size ≤ 1000000) (hc : p.dst.size ≤ 1000000) (w : World) (hBA : BeforeAt w) (hKA : KindsAt w) :
 Calls Tryz.prog 106 #[p.val, .int .i64 t] w fun e w' => e = .returned (.tuple #[(atP p t).1, .int .i64 (atP p t).2]) ∧ Below w.heap.size w w' := by
 unfold atP
 by_cases h1 : p.ok = false
 · rw [if_pos h1]
   exact at_bad p.std p.dst p.stdOff p.dstOff p.start.kind p.start.day p.start.month p.start.week p.start.sec p.stop.kind p.stop.day p.stop.month p.stop.week p.stop.sec t ha hc h1 w
 · have h1' : p.ok = true := by simpa using h1
   rw [if_neg h1]
   by_cases h2 : t < -36028797018963968 ∨ 36028797018963968 < t
   · rw [if_pos h2]
     exact at_range p.std p.dst p.stdOff p.dstOff p.start.kind p.start.day p.start.month p.start.week p.start.sec p.stop.kind p.stop.day p.stop.month p.stop.week p.stop.sec t h2 ha hc h1' w
   · rw [if_neg h2]
     by_cases h3 : p.dst.toList.isEmpty = true
     · rw [if_pos h3]
       exact at_std p.std p.dst p.stdOff p.dstOff p.start.kind p.start.day p.start.month p.start.week p.start.sec p.stop.kind p.stop.day p.stop.month p.stop.week p.stop.sec t (by omega) (by omega) ha hc h3 h1' w hBA
     · have h3' : p.dst.toList.isEmpty = false := by simpa using h3
       rw [if_neg h3]
       obtain ⟨q1, q2, q3, q4⟩ := ok_parts h1' h3'
       exact at_dst p.std p.dst p.stdOff p.dstOff p.start.kind p.start.day p.start.month p.start.week p.start.sec p.stop.kind p.stop.day p.stop.month p.stop.week p.stop.sec t (by omega) (by omega) ha hc h3' q1 q2 q3 q4 h1' w hBA hKA
end Go.Proofs.YtkpmmabdpeobaaaGreatDoor.Px
