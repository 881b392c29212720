/- The function analemmaref37.At at a TZ with daylight saving time: the local time of the last event that is not behind the instant. The function analemmaref37.At at any TZ and instant. The functions of package analemmaref04 that read amounts of time. The method (posix.beginning).later, and the last event by it. -/
import Derived.Test.YtkpmmabdpeobaaaGreatDoorSU4
import Derived.Deep.RegionWith
import Derived.Test.YtkpmmabdpeobaaaGreatDoorSU1
namespace Go.Proofs.YtkpmmabdpeobaaaGreatDoor.Px
open Go.RowKit
open Civ
structure AtInv (w : World) (P : Array Value) (R S : Nat) (x y z : Array Value) (V wr : World) : Prop where
 below : Below w.heap.size w wr
 row : RowAt wr w.heap.size P
 res : wr.heap[R]? = some (.cells #[.int .i64 0, .bool false, .string ⟨#[]⟩] 28 (0, 0))
 std : wr.heap[S]? = some (.cells x 28 (0, 0))
 dst : wr.heap[S + 1]? = some (.cells y 28 (0, 0))
 loc : wr.heap[S + 2]? = some (.cells z 28 (0, 0))
theorem AtInv.keep {w : World} {P : Array Value} {R S : Nat} {x y z : Array Value} {V wr W : World} (h : AtInv w P R S x y z V wr) (hB : Below wr.heap.size wr W) : AtInv w P R S x y z V W :=
 ⟨h.below.trans (hB.mono h.below.size), h.row.keep hB, heap_keep h.res hB, heap_keep h.std hB, heap_keep h.dst hB, heap_keep h.loc hB⟩
theorem RowAt.over {W W1 W' : World} {b : Nat} {cs : Array Value} (h : RowAt W b cs) (hB : Below W1.heap.size W1 W') (he : W1.heap = W.heap) : RowAt W' b cs := by
 have h1 : RowAt W1 b cs := ⟨by rw [he]; exact h.1, fun i => by have := h.2 i; unfold World.cell? at *; rw [he]; exact this⟩
 exact h1.keep hB
theorem below_over {W W1 W' : World} (hB : Below W1.heap.size W1 W') (he : W1.heap = W.heap) (ho : W1.os = W.os) (ht : W1.tape = W.tape) (hp : W1.output = W.output) : Below W.heap.size W W' :=
 ⟨hB.os.trans ho, hB.tape.trans ht, hB.output.trans hp, by have := hB.size; rw [he] at this; exact this, fun i hi => by have := hB.block i (by rw [he]; exact hi); rw [he] at this; exact this⟩
theorem stepL_pos {t : Int} {s b : Ev} (h : b.1 ≤ t ∧ (s.1 < b.1 ∨ (b.1 = s.1 ∧ b.2 = true))) : stepL t s b = b := if_pos h
theorem stepL_neg {t : Int} {s b : Ev} (h : ¬(b.1 ≤ t ∧ (s.1 < b.1 ∨ (b.1 = s.1 ∧ b.2 = true)))) : stepL t s b = s := if_neg h
theorem cell_other {w : World} {b i j : Nat} {u : Value} (c : Nat) (hne : c ≠ b) : (w.setCell ⟨b, i, none⟩ u).cell? ⟨c, j, none⟩ = w.cell? ⟨c, j, none⟩ := by
 unfold World.cell?
 rw [Below.heap_setCell _ _ _ _ hne]
theorem AtInv.set {w : World} {P : Array Value} {R S : Nat} {x y z : Array Value} {V wr : World} (h : AtInv w P R S x y z V wr) (hw : w.heap.size < S) (hR : R < S) (i : Nat) (u : Value) :
 AtInv w P R S x y (z.setIfInBounds i u) V (wr.setCell ⟨S + 1 + 1, i, none⟩ u) :=
 ⟨h.below.setCell (by show w.heap.size ≤ S + 1 + 1; omega) u, ⟨by simpa using h.row.1, fun j => (cell_other _ (by omega)).trans (h.row.2 j)⟩, (Below.heap_setCell _ _ _ _ (by show R ≠ S + 1 + 1; omega)).trans h.res,
  (Below.heap_setCell _ _ _ _ (by show S ≠ S + 1 + 1; omega)).trans h.std, (Below.heap_setCell _ _ _ _ (by show S + 1 ≠ S + 1 + 1; omega)).trans h.dst, cells_set h.loc i u⟩
def locOf (a c : ByteArray) (b d : Int) (s : Bool) : Array Value := if s then #[.int .i64 d, .bool true, .string c] else #[.int .i64 b, .bool false, .string a]
set_option maxHeartbeats 8000000 in
set_option maxRecDepth 100000 in
theorem ref_at_dst (a c : ByteArray) (b d k1 d1 m1 w1 s1 k2 d2 m2 w2 s2 : Int) (t : Int) (t0 : -36028797018963968 ≤ t) (t1 : t ≤ 36028797018963968) (ha : a.size ≤ 1000000) (hc : c.size ≤ 1000000) (hne : c.toList.isEmpty = false)
 (h1 : Dt.ok ⟨k1, d1, m1, w1, s1⟩ = true) (h2 : Dt.ok ⟨k2, d2, m2, w2, s2⟩ = true) (o1 : offB b = true) (o2 : offB d = true) (hp : Pos.ok ⟨a, b, c, d, ⟨k1, d1, m1, w1, s1⟩, ⟨k2, d2, m2, w2, s2⟩⟩ = true) (w : World) :
 Calls Tryz.prog 47 #[.agg #[.string a, .int .i64 b, .string c, .int .i64 d, .int .i64 k1, .int .i64 d1, .int .i64 m1, .int .i64 w1, .int .i64 s1, .int .i64 k2, .int .i64 d2, .int .i64 m2, .int .i64 w2, .int .i64 s2], .int .i64 t] w fun e w' => e = .returned (.tuple #[.agg (locOf a c b d (lastP ⟨a, b, c, d, ⟨k1, d1, m1, w1, s1⟩, ⟨k2, d2, m2, w2, s2⟩⟩ t).2), .int .i64 0]) ∧ Below w.heap.size w w' := by
 have CC := Lib.hid (ref_check ⟨a, b, c, d, ⟨k1, d1, m1, w1, s1⟩, ⟨k2, d2, m2, w2, s2⟩⟩ ha hc)
 rw [hp] at CC
 have CY := Lib.hid (ref_Year t (by omega) (by omega) (by omega) (by omega))
 have HL := Lib.hid (lastP_R (p := ⟨a, b, c, d, ⟨k1, d1, m1, w1, s1⟩, ⟨k2, d2, m2, w2, s2⟩⟩) h1 h2 o1 o2 t t0 t1)
 have hyb : -2000000 * 1000 + 10 ≤ yearT t ∧ yearT t ≤ 2000000 * 1000 - 10 := by
  have hy := yearOf_ok (t / 86400)
  have hb : -1999999990 ≤ yearOf (t / 86400) ∧ yearOf (t / 86400) ≤ 1999999990 := by
   obtain ⟨a, b⟩ := hy
   unfold jan at a b
   omega
  unfold yearT
  rw [if_neg (by omega), if_neg (by omega)]
  omega
 obtain ⟨Y, hY⟩ : ∃ Y, yearT t = Y := ⟨_, rfl⟩
 rw [hY] at CY HL hyb
 obtain ⟨y0, y1⟩ := hyb
 have O1 := offB_iff.1 o1
 have O2 := offB_iff.1 o2
 obtain ⟨o10, o11⟩ := O1
 obtain ⟨o20, o21⟩ := O2
 have S1 := ((Dt.ok_iff _).1 h1).1
 have S2 := ((Dt.ok_iff _).1 h2).1
 obtain ⟨s10, s11⟩ := S1
 obtain ⟨s20, s21⟩ := S2
 dsimp only at s10 s11 s20 s21
 have HO1 := Lib.hid h1
 have HO2 := Lib.hid h2
 obtain ⟨lb, hlb⟩ : ∃ l, (lastP ⟨a, b, c, d, ⟨k1, d1, m1, w1, s1⟩, ⟨k2, d2, m2, w2, s2⟩⟩ t).2 = l := ⟨_, rfl⟩
 rw [hlb]
 have HLB := Lib.hid hlb
 have HA := Lib.hid (((Below.refl _ w).alloc (Nat.le_refl _) (.cells #[.string a, .int .i64 b, .string c, .int .i64 d, .int .i64 k1, .int .i64 d1, .int .i64 m1, .int .i64 w1, .int .i64 s1, .int .i64 k2, .int .i64 d2, .int .i64 m2, .int .i64 w2, .int .i64 s2] 50)).alloc (by simp) (.cells #[.int .i64 0, .bool false, .string ⟨#[]⟩] 28))
 have HRW := Lib.hid ((rowAt_alloc w #[.string a, .int .i64 b, .string c, .int .i64 d, .int .i64 k1, .int .i64 d1, .int .i64 m1, .int .i64 w1, .int .i64 s1, .int .i64 k2, .int .i64 d2, .int .i64 m2, .int .i64 w2, .int .i64 s2] 50).keep ((Below.refl _ _).alloc (Nat.le_refl _) (.cells #[.int .i64 0, .bool false, .string ⟨#[]⟩] 28)))
 clear hp h1 h2 o1 o2 hY hlb
 go_enter Tryz.func47, Tryz.ntmps47
 go_wp2_with fail
 refine (CC.out _).mono ?_
 rintro e V ⟨rfl, hb⟩
 rw [show codeE true = 0 from rfl]
 have hres := heap_keep (b := w.heap.size + 1) (x := .cells #[.int .i64 0, .bool false, .string ⟨#[]⟩] 28 (0, 0)) (by rw [← show (w.alloc (.cells #[.string a, .int .i64 b, .string c, .int .i64 d, .int .i64 k1, .int .i64 d1, .int .i64 m1, .int .i64 w1, .int .i64 s1, .int .i64 k2, .int .i64 d2, .int .i64 m2, .int .i64 w2, .int .i64 s2] 50)).heap.size = w.heap.size + 1 by simp]; exact heap_new _ _) hb
 have hrow := HRW.out.keep hb
 have HV := Lib.hid (HA.out.trans (hb.mono HA.out.size))
 obtain ⟨c0, c1, c2, c3, c4, c5, c6, c7, c8, c9, c10, c11, c12, c13⟩ := hrow.pos
 have HRES := Lib.hid hres
 have HROW := Lib.hid hrow
 have hz1 : w.heap.size + 1 < V.heap.size := lt_of_block hres
 have hz0 : w.heap.size < V.heap.size := by omega
 have tr1 : decide (t < -36028797018963968) = false := decide_eq_false (by omega)
 have tr2 : decide (36028797018963968 < t) = false := decide_eq_false (by omega)
 clear hb hres hrow
 go_wp2_with fail
 refine (CY.out _).mono ?_
 rintro e w' ⟨rfl, rfl⟩
 clear c0 c1 c2 c3 c4 c5 c6 c7 c8 c9 c10 c11 c12 c13
 go_wp2_with fail
 go_loopw [8, 11] (fun l y wr => ∃ (k : Nat) (s : Ev), k ≤ 7 ∧ y = .int .i64 (Y - 3 + k) ∧ l = .int .i64 s.1 ∧ s = foldY (twoR ⟨a, b, c, d, ⟨k1, d1, m1, w1, s1⟩, ⟨k2, d2, m2, w2, s2⟩⟩ t) ev0 (Y - 3) k ∧
  AtInv w #[.string a, .int .i64 b, .string c, .int .i64 d, .int .i64 k1, .int .i64 d1, .int .i64 m1, .int .i64 w1, .int .i64 s1, .int .i64 k2, .int .i64 d2, .int .i64 m2, .int .i64 w2, .int .i64 s2] (w.heap.size + 1) V.heap.size #[.int .i64 b, .bool false, .string a] #[.int .i64 d, .bool true, .string c] (locOf a c b d s.2) V wr) (fun _ y _ => (Y + 4 - intOf y).toNat)
 case atStart =>
  have hB3 : Below V.heap.size V (((V.alloc (.cells #[.int .i64 b, .bool false, .string a] 28)).alloc (.cells #[.int .i64 d, .bool true, .string c] 28)).alloc (.cells #[.int .i64 b, .bool false, .string a] 28)) :=
   (((Below.refl _ V).alloc (Nat.le_refl _) _).alloc (by simp) _).alloc (by simp; omega) _
  refine ⟨0, ev0, by omega, by simp, rfl, rfl, ⟨HV.out.trans (hB3.mono HV.out.size), HROW.out.keep hB3, heap_keep HRES.out hB3, heap_old (heap_old (heap_new V _) _) _, ?_, ?_⟩⟩
  · have h := heap_new (V.alloc (.cells #[.int .i64 b, .bool false, .string a] 28)) (.cells #[.int .i64 d, .bool true, .string c] 28)
    rw [show (V.alloc (.cells #[.int .i64 b, .bool false, .string a] 28)).heap.size = V.heap.size + 1 by simp] at h
    exact heap_old h _
  · have h := heap_new ((V.alloc (.cells #[.int .i64 b, .bool false, .string a] 28)).alloc (.cells #[.int .i64 d, .bool true, .string c] 28)) (.cells #[.int .i64 b, .bool false, .string a] 28)
    rw [show ((V.alloc (.cells #[.int .i64 b, .bool false, .string a] 28)).alloc (.cells #[.int .i64 d, .bool true, .string c] 28)).heap.size = V.heap.size + 2 by simp] at h
    exact h
 case round =>
  obtain ⟨k, s, hk, rfl, rfl, hs, inv⟩ := hrel
  have HI := Lib.hid inv
  have HS := Lib.hid hs
  have hwz : w.heap.size < wr.heap.size := inv.row.1
  clear inv hs
  obtain ⟨yv, hyv⟩ : ∃ yv, Y - 3 + (k : Int) = yv := ⟨_, rfl⟩
  have hy0 : -1999999999 ≤ yv := by omega
  have hy1 : yv ≤ 1999999999 := by omega
  have HYV := Lib.hid hyv
  have C1 := Lib.hid (ref_day ⟨k1, d1, m1, w1, s1⟩ yv HO1.out (by omega) (by omega))
  have C2 := Lib.hid (ref_day ⟨k2, d2, m2, w2, s2⟩ yv HO2.out (by omega) (by omega))
  have bd1 := dayD_bd HO1.out yv
  have bd2 := dayD_bd HO2.out yv
  have bj := jan_bd (y := yv) (by omega) (by omega)
  obtain ⟨D1, hD1⟩ : ∃ D, dayD ⟨k1, d1, m1, w1, s1⟩ yv = D := ⟨_, rfl⟩
  obtain ⟨D2, hD2⟩ : ∃ D, dayD ⟨k2, d2, m2, w2, s2⟩ yv = D := ⟨_, rfl⟩
  rw [hD1] at C1 bd1
  rw [hD2] at C2 bd2
  have b10 : -2000000001000 ≤ D1 := by omega
  have b11 : D1 ≤ 2000000001000 := by omega
  have b20 : -2000000001000 ≤ D2 := by omega
  have b21 : D2 ≤ 2000000001000 := by omega
  have HD1 := Lib.hid hD1
  have HD2 := Lib.hid hD2
  clear bd1 bd2 bj hD1 hD2
  by_cases hlt : k < 7
  · have t7 : yv ≤ Y + 3 := by omega
    rw [hyv]
    clear hyv
    go_wp2_with fail
    go_cut [12] (fun x wx => x = .int .i64 (86400 * D1 + s1 - b) ∧ Below wr.heap.size wr wx)
    case first =>
     obtain ⟨c0, c1, c2, c3, c4, c5, c6, c7, c8, c9, c10, c11, c12, c13⟩ := HI.out.row.pos
     have q1 : IntKind.i64.wrap (86400 * D1) = 86400 * D1 := IntWalk.i64_in _ (by omega)
     have q2 : IntKind.i64.wrap (86400 * D1 + s1) = 86400 * D1 + s1 := IntWalk.i64_in _ (by omega)
     have q3 : IntKind.i64.wrap (86400 * D1 + s1 - b) = 86400 * D1 + s1 - b := IntWalk.i64_in _ (by omega)
     go_region_with (go_at_call 95; refine (C1.out _).mono ?_; rintro e X ⟨rfl, hb⟩; obtain ⟨e0, e1, e2, e3, e4, e5, e6, e7, e8, e9, e10, e11, e12, e13⟩ := (HI.out.row.over hb rfl).pos; have HX : Hid (Below wr.heap.size wr X) := Lib.hid (below_over hb rfl rfl rfl rfl); clear hb)
     all_goals (go_wp2_with fail; go_meet; exact ⟨rfl, HX.out⟩)
    case rest =>
     obtain ⟨rfl, hb1⟩ := hcut
     have HI1 := Lib.hid (HI.out.keep hb1)
     clear hb1
     obtain ⟨X1, rfl⟩ : ∃ X1, X1 = wc := ⟨_, rfl⟩
     go_wp2_with fail
     go_cut [13] (fun x wx => x = .int .i64 (86400 * D2 + s2 - d) ∧ Below X1.heap.size X1 wx)
     case first =>
      obtain ⟨c0, c1, c2, c3, c4, c5, c6, c7, c8, c9, c10, c11, c12, c13⟩ := HI1.out.row.pos
      have hwz1 : w.heap.size < X1.heap.size := HI1.out.row.1
      have q1 : IntKind.i64.wrap (86400 * D2) = 86400 * D2 := IntWalk.i64_in _ (by omega)
      have q2 : IntKind.i64.wrap (86400 * D2 + s2) = 86400 * D2 + s2 := IntWalk.i64_in _ (by omega)
      have q3 : IntKind.i64.wrap (86400 * D2 + s2 - d) = 86400 * D2 + s2 - d := IntWalk.i64_in _ (by omega)
      go_region_with (go_at_call 95; refine (C2.out _).mono ?_; rintro e X ⟨rfl, hb⟩; obtain ⟨e0, e1, e2, e3, e4, e5, e6, e7, e8, e9, e10, e11, e12, e13⟩ := (HI1.out.row.over hb rfl).pos; have HX : Hid (Below X1.heap.size X1 X) := Lib.hid (below_over hb rfl rfl rfl rfl); clear hb)
      all_goals (go_wp2_with fail; go_meet; exact ⟨rfl, HX.out⟩)
     case rest =>
      obtain ⟨rfl, hb2⟩ := hcut
      have HI2 := Lib.hid (HI1.out.keep hb2)
      clear hb2
      obtain ⟨X2, rfl⟩ : ∃ X2, X2 = wc := ⟨_, rfl⟩
      have HB := Lib.hid (show 86400 * D1 + s1 - b = begI ⟨a, b, c, d, ⟨k1, d1, m1, w1, s1⟩, ⟨k2, d2, m2, w2, s2⟩⟩ (Y - 3 + k) by rw [HYV.out]; unfold begI; dsimp only; rw [HD1.out])
      have HE := Lib.hid (show 86400 * D2 + s2 - d = endI ⟨a, b, c, d, ⟨k1, d1, m1, w1, s1⟩, ⟨k2, d2, m2, w2, s2⟩⟩ (Y - 3 + k) by rw [HYV.out]; unfold endI; dsimp only; rw [HD2.out])
      obtain ⟨B, hB⟩ : ∃ B, 86400 * D1 + s1 - b = B := ⟨_, rfl⟩
      obtain ⟨E, hE⟩ : ∃ E, 86400 * D2 + s2 - d = E := ⟨_, rfl⟩
      rw [hB] at HB ⊢
      rw [hE] at HE ⊢
      clear hB hE C1 C2
      have HF := Lib.hid (show foldY (twoR ⟨a, b, c, d, ⟨k1, d1, m1, w1, s1⟩, ⟨k2, d2, m2, w2, s2⟩⟩ t) ev0 (Y - 3) (k + 1) = stepL t (stepL t s (E, false)) (B, true) by
       show twoR _ _ (foldY _ _ _ k) _ = _
       rw [← HS.out]; unfold twoR; rw [← HB.out, ← HE.out])
      obtain ⟨sl, sd⟩ := s
      obtain ⟨⟨x0, x1, x2⟩, fx0, fx1, fx2⟩ := row3 HI2.out.std
      obtain ⟨⟨z0, z1, z2⟩, fz0, fz1, fz2⟩ := row3 HI2.out.dst
      have hloc : ∃ u0 u1 u2, locOf a c b d sd = #[u0, u1, u2] := by cases sd <;> exact ⟨_, _, _, rfl⟩
      obtain ⟨u0, u1, u2, hu⟩ := hloc
      have hL := HI2.out.loc
      dsimp only at hL
      rw [hu] at hL
      obtain ⟨⟨v0, v1, v2⟩, fv0, fv1, fv2⟩ := row3 hL
      have HI3 := Lib.hid (show AtInv w #[.string a, .int .i64 b, .string c, .int .i64 d, .int .i64 k1, .int .i64 d1, .int .i64 m1, .int .i64 w1, .int .i64 s1, .int .i64 k2, .int .i64 d2, .int .i64 m2, .int .i64 w2, .int .i64 s2] (w.heap.size + 1) V.heap.size #[.int .i64 b, .bool false, .string a] #[.int .i64 d, .bool true, .string c] #[u0, u1, u2] V X2 by have h := HI2.out; dsimp only at h; rwa [hu] at h)
      have HYN := Lib.hid (show Value.int .i64 (yv + 1) = Value.int .i64 (Y - 3 + ((k + 1 : Nat) : Int)) from congrArg (Value.int .i64) (by have := HYV.out; omega))
      clear hL hu
      by_cases a1 : E ≤ t
      · by_cases a2 : sl < E
        · by_cases a3 : B ≤ t
          · by_cases a4 : E ≤ B
            · have a5 : E < B ∨ (B = E ∧ true = true) := by
                by_cases q : B = E
                · exact .inr ⟨q, rfl⟩
                · exact .inl (by omega)
              go_wp2_with fail
              refine ⟨⟨k + 1, (B, true), by omega, HYN.out, rfl, by rw [HF.out, stepL_pos (s := (sl, sd)) (b := (E, false)) ⟨a1, .inl a2⟩, stepL_pos (s := (E, false)) (b := (B, true)) ⟨a3, a5⟩], ((((((HI3.out.set hz0 hz1 0 (.int .i64 b)).set hz0 hz1 1 (.bool false)).set hz0 hz1 2 (.string a)).set hz0 hz1 0 (.int .i64 d)).set hz0 hz1 1 (.bool true)).set hz0 hz1 2 (.string c))⟩, by simp [intOf]; omega⟩
            · go_wp2_with fail
              refine ⟨⟨k + 1, (E, false), by omega, HYN.out, rfl, by rw [HF.out, stepL_pos (s := (sl, sd)) (b := (E, false)) ⟨a1, .inl a2⟩, stepL_neg (s := (E, false)) (b := (B, true)) (fun h => a4 (by rcases h.2 with h | h; exact Int.le_of_lt h; exact Int.le_of_eq h.1.symm))], (((HI3.out.set hz0 hz1 0 (.int .i64 b)).set hz0 hz1 1 (.bool false)).set hz0 hz1 2 (.string a))⟩, by simp [intOf]; omega⟩
          · go_wp2_with fail
            refine ⟨⟨k + 1, (E, false), by omega, HYN.out, rfl, by rw [HF.out, stepL_pos (s := (sl, sd)) (b := (E, false)) ⟨a1, .inl a2⟩, stepL_neg (s := (E, false)) (b := (B, true)) (fun h => a3 h.1)], (((HI3.out.set hz0 hz1 0 (.int .i64 b)).set hz0 hz1 1 (.bool false)).set hz0 hz1 2 (.string a))⟩, by simp [intOf]; omega⟩
        · by_cases a3 : B ≤ t
          · by_cases a4 : sl ≤ B
            · have a5 : sl < B ∨ (B = sl ∧ true = true) := by
                by_cases q : B = sl
                · exact .inr ⟨q, rfl⟩
                · exact .inl (by omega)
              go_wp2_with fail
              refine ⟨⟨k + 1, (B, true), by omega, HYN.out, rfl, by rw [HF.out, stepL_neg (s := (sl, sd)) (b := (E, false)) (fun h => by rcases h.2 with h | h; exact a2 h; cases h.2), stepL_pos (s := (sl, sd)) (b := (B, true)) ⟨a3, a5⟩], (((HI3.out.set hz0 hz1 0 (.int .i64 d)).set hz0 hz1 1 (.bool true)).set hz0 hz1 2 (.string c))⟩, by simp [intOf]; omega⟩
            · go_wp2_with fail
              refine ⟨⟨k + 1, (sl, sd), by omega, HYN.out, rfl, by rw [HF.out, stepL_neg (s := (sl, sd)) (b := (E, false)) (fun h => by rcases h.2 with h | h; exact a2 h; cases h.2), stepL_neg (s := (sl, sd)) (b := (B, true)) (fun h => a4 (by rcases h.2 with h | h; exact Int.le_of_lt h; exact Int.le_of_eq h.1.symm))], HI2.out⟩, by simp [intOf]; omega⟩
          · go_wp2_with fail
            refine ⟨⟨k + 1, (sl, sd), by omega, HYN.out, rfl, by rw [HF.out, stepL_neg (s := (sl, sd)) (b := (E, false)) (fun h => by rcases h.2 with h | h; exact a2 h; cases h.2), stepL_neg (s := (sl, sd)) (b := (B, true)) (fun h => a3 h.1)], HI2.out⟩, by simp [intOf]; omega⟩
      · by_cases a3 : B ≤ t
        · by_cases a4 : sl ≤ B
          · have a5 : sl < B ∨ (B = sl ∧ true = true) := by
              by_cases q : B = sl
              · exact .inr ⟨q, rfl⟩
              · exact .inl (by omega)
            go_wp2_with fail
            refine ⟨⟨k + 1, (B, true), by omega, HYN.out, rfl, by rw [HF.out, stepL_neg (s := (sl, sd)) (b := (E, false)) (fun h => a1 h.1), stepL_pos (s := (sl, sd)) (b := (B, true)) ⟨a3, a5⟩], (((HI3.out.set hz0 hz1 0 (.int .i64 d)).set hz0 hz1 1 (.bool true)).set hz0 hz1 2 (.string c))⟩, by simp [intOf]; omega⟩
          · go_wp2_with fail
            refine ⟨⟨k + 1, (sl, sd), by omega, HYN.out, rfl, by rw [HF.out, stepL_neg (s := (sl, sd)) (b := (E, false)) (fun h => a1 h.1), stepL_neg (s := (sl, sd)) (b := (B, true)) (fun h => a4 (by rcases h.2 with h | h; exact Int.le_of_lt h; exact Int.le_of_eq h.1.symm))], HI2.out⟩, by simp [intOf]; omega⟩
        · go_wp2_with fail
          refine ⟨⟨k + 1, (sl, sd), by omega, HYN.out, rfl, by rw [HF.out, stepL_neg (s := (sl, sd)) (b := (E, false)) (fun h => a1 h.1), stepL_neg (s := (sl, sd)) (b := (B, true)) (fun h => a3 h.1)], HI2.out⟩, by simp [intOf]; omega⟩
  · obtain rfl : k = 7 := by omega
    have h7 : yv = Y + 4 := by omega
    rw [hyv]
    clear hyv
    subst h7
    have hsd : s.2 = lb := by rw [HS.out, HL.out, HLB.out]
    have hL := HI.out.loc
    rw [hsd] at hL
    have hR := HI.out.res
    obtain ⟨⟨r0, r1, r2⟩, fr0, fr1, fr2⟩ := row3 hR
    have HBW := Lib.hid HI.out.below
    clear hsd hR C1 C2
    cases lb
    · obtain ⟨⟨v0, v1, v2⟩, fv0, fv1, fv2⟩ := row3 (show wr.heap[V.heap.size + 2]? = some (.cells #[.int .i64 b, .bool false, .string a] 28 (0, 0)) from hL)
      clear hL
      go_wp2_with fail
      refine bodyPost_ret (v := .tuple #[.agg #[.int .i64 b, .bool false, .string a], .int .i64 0]) (by simp [results, Tryz.results47, go_sem, r0, r1, r2]) rfl ⟨rfl, ?_⟩
      exact ((HBW.out.setCell (by simp) _).setCell (by simp) _).setCell (by simp) _
    · obtain ⟨⟨v0, v1, v2⟩, fv0, fv1, fv2⟩ := row3 (show wr.heap[V.heap.size + 2]? = some (.cells #[.int .i64 d, .bool true, .string c] 28 (0, 0)) from hL)
      clear hL
      go_wp2_with fail
      refine bodyPost_ret (v := .tuple #[.agg #[.int .i64 d, .bool true, .string c], .int .i64 0]) (by simp [results, Tryz.results47, go_sem, r0, r1, r2]) rfl ⟨rfl, ?_⟩
      exact ((HBW.out.setCell (by simp) _).setCell (by simp) _).setCell (by simp) _
end Go.Proofs.YtkpmmabdpeobaaaGreatDoor.Px
namespace Go.Proofs.YtkpmmabdpeobaaaGreatDoor.Px
open Go.RowKit
open Civ
set_option maxHeartbeats 4000000 in
set_option maxRecDepth 100000 in
theorem ref_at_range (a c : ByteArray) (b d k1 d1 m1 w1 s1 k2 d2 m2 w2 s2 : Int) (t : Int) (ht : t < -36028797018963968 ∨ 36028797018963968 < t) (ha : a.size ≤ 1000000) (hc : c.size ≤ 1000000) (hp : Pos.ok ⟨a, b, c, d, ⟨k1, d1, m1, w1, s1⟩, ⟨k2, d2, m2, w2, s2⟩⟩ = true) (w : World) :
 Calls Tryz.prog 47 #[.agg #[.string a, .int .i64 b, .string c, .int .i64 d, .int .i64 k1, .int .i64 d1, .int .i64 m1, .int .i64 w1, .int .i64 s1, .int .i64 k2, .int .i64 d2, .int .i64 m2, .int .i64 w2, .int .i64 s2], .int .i64 t] w fun e w' => e = .returned (.tuple #[Loc 0 false ⟨#[]⟩, .int .i64 3]) ∧ Below w.heap.size w w' := by
 have CC := Lib.hid (ref_check ⟨a, b, c, d, ⟨k1, d1, m1, w1, s1⟩, ⟨k2, d2, m2, w2, s2⟩⟩ ha hc)
 rw [hp] at CC
 have HA := Lib.hid (((Below.refl _ w).alloc (Nat.le_refl _) (.cells #[.string a, .int .i64 b, .string c, .int .i64 d, .int .i64 k1, .int .i64 d1, .int .i64 m1, .int .i64 w1, .int .i64 s1, .int .i64 k2, .int .i64 d2, .int .i64 m2, .int .i64 w2, .int .i64 s2] 50)).alloc (by simp) (.cells #[.int .i64 0, .bool false, .string ⟨#[]⟩] 28))
 have HRW := Lib.hid ((rowAt_alloc w #[.string a, .int .i64 b, .string c, .int .i64 d, .int .i64 k1, .int .i64 d1, .int .i64 m1, .int .i64 w1, .int .i64 s1, .int .i64 k2, .int .i64 d2, .int .i64 m2, .int .i64 w2, .int .i64 s2] 50).keep ((Below.refl _ _).alloc (Nat.le_refl _) (.cells #[.int .i64 0, .bool false, .string ⟨#[]⟩] 28)))
 clear hp
 rcases ht with ht | ht
 · have tr1 : decide (t < -36028797018963968) = true := decide_eq_true ht
   go_enter Tryz.func47, Tryz.ntmps47
   go_wp2_with fail
   refine (CC.out _).mono ?_
   rintro e V ⟨rfl, hb⟩
   rw [show codeE true = 0 from rfl]
   have hres := heap_keep (b := w.heap.size + 1) (x := .cells #[.int .i64 0, .bool false, .string ⟨#[]⟩] 28 (0, 0)) (by rw [← show (w.alloc (.cells #[.string a, .int .i64 b, .string c, .int .i64 d, .int .i64 k1, .int .i64 d1, .int .i64 m1, .int .i64 w1, .int .i64 s1, .int .i64 k2, .int .i64 d2, .int .i64 m2, .int .i64 w2, .int .i64 s2] 50)).heap.size = w.heap.size + 1 by simp]; exact heap_new _ _) hb
   have hrow := HRW.out.keep hb
   have HV := Lib.hid (HA.out.trans (hb.mono HA.out.size))
   obtain ⟨c0, c1, c2, c3, c4, c5, c6, c7, c8, c9, c10, c11, c12, c13⟩ := hrow.pos
   obtain ⟨⟨r0, r1, r2⟩, f0, f1, f2⟩ := row3 hres
   have hz1 : w.heap.size + 1 < V.heap.size := lt_of_block hres
   have hz0 : w.heap.size < V.heap.size := by omega
   clear hb hrow hres
   clear c0 c1 c2 c3 c4 c5 c6 c7 c8 c9 c10 c11 c12 c13
   go_wp2_with fail
   refine bodyPost_ret (v := .tuple #[Loc 0 false ⟨#[]⟩, .int .i64 3]) (by simp [results, Tryz.results47, go_sem, Loc, r0, r1, r2]) rfl ⟨rfl, ?_⟩
   exact ((HV.out.setCell (by simp) _).setCell (by simp) _).setCell (by simp) _
 · have tr1 : decide (t < -36028797018963968) = false := decide_eq_false (by omega)
   have tr2 : decide (36028797018963968 < t) = true := decide_eq_true ht
   go_enter Tryz.func47, Tryz.ntmps47
   go_wp2_with fail
   refine (CC.out _).mono ?_
   rintro e V ⟨rfl, hb⟩
   rw [show codeE true = 0 from rfl]
   have hres := heap_keep (b := w.heap.size + 1) (x := .cells #[.int .i64 0, .bool false, .string ⟨#[]⟩] 28 (0, 0)) (by rw [← show (w.alloc (.cells #[.string a, .int .i64 b, .string c, .int .i64 d, .int .i64 k1, .int .i64 d1, .int .i64 m1, .int .i64 w1, .int .i64 s1, .int .i64 k2, .int .i64 d2, .int .i64 m2, .int .i64 w2, .int .i64 s2] 50)).heap.size = w.heap.size + 1 by simp]; exact heap_new _ _) hb
   have hrow := HRW.out.keep hb
   have HV := Lib.hid (HA.out.trans (hb.mono HA.out.size))
   obtain ⟨c0, c1, c2, c3, c4, c5, c6, c7, c8, c9, c10, c11, c12, c13⟩ := hrow.pos
   obtain ⟨⟨r0, r1, r2⟩, f0, f1, f2⟩ := row3 hres
   have hz1 : w.heap.size + 1 < V.heap.size := lt_of_block hres
   have hz0 : w.heap.size < V.heap.size := by omega
   clear hb hrow hres
   clear c0 c1 c2 c3 c4 c5 c6 c7 c8 c9 c10 c11 c12 c13
   go_wp2_with fail
   refine bodyPost_ret (v := .tuple #[Loc 0 false ⟨#[]⟩, .int .i64 3]) (by simp [results, Tryz.results47, go_sem, Loc, r0, r1, r2]) rfl ⟨rfl, ?_⟩
   exact ((HV.out.setCell (by simp) _).setCell (by simp) _).setCell (by simp) _
set_option maxHeartbeats 4000000 in
set_option maxRecDepth 100000 in
theorem ref_at_std (a c : ByteArray) (b d k1 d1 m1 w1 s1 k2 d2 m2 w2 s2 : Int) (t : Int) (t0 : -36028797018963968 ≤ t) (t1 : t ≤ 36028797018963968) (ha : a.size ≤ 1000000) (hc : c.size ≤ 1000000) (hne : c.toList.isEmpty = true) (hp : Pos.ok ⟨a, b, c, d, ⟨k1, d1, m1, w1, s1⟩, ⟨k2, d2, m2, w2, s2⟩⟩ = true) (w : World) :
 Calls Tryz.prog 47 #[.agg #[.string a, .int .i64 b, .string c, .int .i64 d, .int .i64 k1, .int .i64 d1, .int .i64 m1, .int .i64 w1, .int .i64 s1, .int .i64 k2, .int .i64 d2, .int .i64 m2, .int .i64 w2, .int .i64 s2], .int .i64 t] w fun e w' => e = .returned (.tuple #[Loc b false a, .int .i64 0]) ∧ Below w.heap.size w w' := by
 have CC := Lib.hid (ref_check ⟨a, b, c, d, ⟨k1, d1, m1, w1, s1⟩, ⟨k2, d2, m2, w2, s2⟩⟩ ha hc)
 rw [hp] at CC
 have HA := Lib.hid (((Below.refl _ w).alloc (Nat.le_refl _) (.cells #[.string a, .int .i64 b, .string c, .int .i64 d, .int .i64 k1, .int .i64 d1, .int .i64 m1, .int .i64 w1, .int .i64 s1, .int .i64 k2, .int .i64 d2, .int .i64 m2, .int .i64 w2, .int .i64 s2] 50)).alloc (by simp) (.cells #[.int .i64 0, .bool false, .string ⟨#[]⟩] 28))
 have HRW := Lib.hid ((rowAt_alloc w #[.string a, .int .i64 b, .string c, .int .i64 d, .int .i64 k1, .int .i64 d1, .int .i64 m1, .int .i64 w1, .int .i64 s1, .int .i64 k2, .int .i64 d2, .int .i64 m2, .int .i64 w2, .int .i64 s2] 50).keep ((Below.refl _ _).alloc (Nat.le_refl _) (.cells #[.int .i64 0, .bool false, .string ⟨#[]⟩] 28)))
 clear hp
 have tr1 : decide (t < -36028797018963968) = false := decide_eq_false (by omega)
 have tr2 : decide (36028797018963968 < t) = false := decide_eq_false (by omega)
 have HNE := Lib.hid hne
 have hne2 : c.toList = [] := List.isEmpty_iff.1 hne
 clear hne
 go_enter Tryz.func47, Tryz.ntmps47
 go_wp2_with fail
 refine (CC.out _).mono ?_
 rintro e V ⟨rfl, hb⟩
 rw [show codeE true = 0 from rfl]
 have hres := heap_keep (b := w.heap.size + 1) (x := .cells #[.int .i64 0, .bool false, .string ⟨#[]⟩] 28 (0, 0)) (by rw [← show (w.alloc (.cells #[.string a, .int .i64 b, .string c, .int .i64 d, .int .i64 k1, .int .i64 d1, .int .i64 m1, .int .i64 w1, .int .i64 s1, .int .i64 k2, .int .i64 d2, .int .i64 m2, .int .i64 w2, .int .i64 s2] 50)).heap.size = w.heap.size + 1 by simp]; exact heap_new _ _) hb
 have hrow := HRW.out.keep hb
 have HV := Lib.hid (HA.out.trans (hb.mono HA.out.size))
 obtain ⟨c0, c1, c2, c3, c4, c5, c6, c7, c8, c9, c10, c11, c12, c13⟩ := hrow.pos
 obtain ⟨⟨r0, r1, r2⟩, f0, f1, f2⟩ := row3 hres
 have hz1 : w.heap.size + 1 < V.heap.size := lt_of_block hres
 have hz0 : w.heap.size < V.heap.size := by omega
 clear hb hrow hres
 go_wp2_with fail
 refine bodyPost_ret (v := .tuple #[Loc b false a, .int .i64 0]) (by simp [results, Tryz.results47, go_sem, Loc, r0, r1, r2, hz1]) rfl ⟨rfl, ?_⟩
 exact (((HV.out.setCell (by simp) _).setCell (by simp) _).setCell (by simp) _).alloc (by simp; omega) _
def atP (p : Pos) (t : Int) : Value × Int :=
 if p.ok = false then (Loc 0 false ⟨#[]⟩, 2)
 else if t < -36028797018963968 ∨ 36028797018963968 < t then (Loc 0 false ⟨#[]⟩, 3)
 else if p.dst.toList.isEmpty = true then (Loc p.stdOff false p.std, 0)
 else (.agg (locOf p.std p.dst p.stdOff p.dstOff (lastP p t).2), 0)
theorem ok_parts {p : Pos} (h : p.ok = true) (hne : p.dst.toList.isEmpty = false) : p.start.ok = true ∧ p.stop.ok = true ∧ offB p.stdOff = true ∧ offB p.dstOff = true := by
 unfold Pos.ok Pos.stdB Pos.noneB noneQ Pos.dstB at h
 rw [hne] at h
 simp only [Bool.false_and, Bool.false_or, Bool.and_eq_true] at h
 exact ⟨h.2.1.2, h.2.2, h.1.2, h.2.1.1.2⟩
theorem ref_at_any (p : Pos) (t : Int) (ha : p.std.size ≤ 1000000) (hc : p.dst.size ≤ 1000000) (w : World) :
 Calls Tryz.prog 47 #[p.val, .int .i64 t] w fun e w' => e = .returned (.tuple #[(atP p t).1, .int .i64 (atP p t).2]) ∧ Below w.heap.size w w' := by
 unfold atP
 by_cases h1 : p.ok = false
 · rw [if_pos h1]
   exact ref_at_bad p.std p.dst p.stdOff p.dstOff p.start.kind p.start.day p.start.month p.start.week p.start.sec p.stop.kind p.stop.day p.stop.month p.stop.week p.stop.sec t ha hc h1 w
 · have h1' : p.ok = true := by simpa using h1
   rw [if_neg h1]
   by_cases h2 : t < -36028797018963968 ∨ 36028797018963968 < t
   · rw [if_pos h2]
     exact ref_at_range p.std p.dst p.stdOff p.dstOff p.start.kind p.start.day p.start.month p.start.week p.start.sec p.stop.kind p.stop.day p.stop.month p.stop.week p.stop.sec t h2 ha hc h1' w
   · rw [if_neg h2]
     by_cases h3 : p.dst.toList.isEmpty = true
     · rw [if_pos h3]
       exact ref_at_std p.std p.dst p.stdOff p.dstOff p.start.kind p.start.day p.start.month p.start.week p.start.sec p.stop.kind p.stop.day p.stop.month p.stop.week p.stop.sec t (by omega) (by omega) ha hc h3 h1' w
     · have h3' : p.dst.toList.isEmpty = false := by simpa using h3
       rw [if_neg h3]
       obtain ⟨q1, q2, q3, q4⟩ := ok_parts h1' h3'
       exact ref_at_dst p.std p.dst p.stdOff p.dstOff p.start.kind p.start.day p.start.month p.start.week p.start.sec p.stop.kind p.stop.day p.stop.month p.stop.week p.stop.sec t (by omega) (by omega) ha hc h3' q1 q2 q3 q4 h1' w
end Go.Proofs.YtkpmmabdpeobaaaGreatDoor.Px
namespace Go.Proofs.YtkpmmabdpeobaaaGreatDoor.Off
open Go.RowKit
open Civ
open Px (len_list)
def digI (c : UInt8) : Int := if digQ c = true then (c.toNat : Int) - 48 else -1
theorem digQ_iff {c : UInt8} : digQ c = true ↔ (48 ≤ c.toNat ∧ c.toNat ≤ 57) := by unfold digQ; simp
theorem digI_pos {c : UInt8} (h : digQ c = true) : digI c = (c.toNat : Int) - 48 ∧ 0 ≤ digI c ∧ digI c ≤ 9 := by
 have e : digI c = (c.toNat : Int) - 48 := if_pos h
 rw [digQ_iff] at h
 rw [e]; omega
theorem digI_neg {c : UInt8} (h : digQ c = false) : digI c = -1 := if_neg (by rw [h]; decide)
theorem ref_digit (c : UInt8) (w : World) :
 Calls Tryz.prog 196 #[.int .u8 (c.toNat : Int)] w fun e w' => e = .returned (.int .i64 (digI c)) ∧ w' = w := by
 by_cases h : digQ c = true
 · rw [(digI_pos h).1]
   rw [digQ_iff] at h
   have h1 : (48 : Int) ≤ (c.toNat : Int) := by omega
   have h2 : (c.toNat : Int) ≤ 57 := by omega
   clear h
   go_enter Tryz.func196, Tryz.ntmps196
   go_wp2_with fail
   go_ret
   exact ⟨rfl, rfl⟩
 · have h' : digQ c = false := by simpa using h
   rw [digI_neg h']
   rw [digQ_iff] at h
   clear h'
   by_cases h1 : c.toNat < 48
   · have h2 : (c.toNat : Int) < 48 := by omega
     clear h h1
     go_enter Tryz.func196, Tryz.ntmps196
     go_wp2_with fail
     go_ret
     exact ⟨rfl, rfl⟩
   · have h2 : (48 : Int) ≤ (c.toNat : Int) := by omega
     have h3 : (57 : Int) < (c.toNat : Int) := by omega
     clear h h1
     go_enter Tryz.func196, Tryz.ntmps196
     go_wp2_with fail
     go_ret
     exact ⟨rfl, rfl⟩
def pairI (l : List UInt8) : Int := match pairL l with
 | some (m, _) => (m : Int)
 | none => -1
theorem drop_two (s : ByteArray) (i : Nat) (h : i + 2 ≤ s.size) : s.data.toList.drop i = s[i] :: s[i + 1] :: s.data.toList.drop (i + 2) := by
 have hl : i < s.data.toList.length := by rw [len_list]; omega
 have hl2 : i + 1 < s.data.toList.length := by rw [len_list]; omega
 rw [List.drop_eq_getElem_cons hl, List.drop_eq_getElem_cons hl2]
 rfl
theorem pairL_short (l : List UInt8) (h : l.length < 2) : pairL l = none := by
 match l, h with
 | [], _ => rfl
 | [_], _ => rfl
theorem pairI_two (a b : UInt8) (r : List UInt8) : pairI (a :: b :: r) = if (digQ a && digQ b && decide (a.toNat ≤ 53)) = true then 10 * ((a.toNat : Int) - 48) + ((b.toNat : Int) - 48) else -1 := by
 have e : pairL (a :: b :: r) = if (digQ a && digQ b && decide (a.toNat ≤ 53)) = true then some (10 * (a.toNat - 48) + (b.toNat - 48), r) else none := rfl
 unfold pairI
 rw [e]
 by_cases h : (digQ a && digQ b && decide (a.toNat ≤ 53)) = true
 · rw [if_pos h, if_pos h]
   simp only [Bool.and_eq_true] at h
   have h1 := digQ_iff.1 h.1.1
   have h2 := digQ_iff.1 h.1.2
   dsimp only
   omega
 · rw [if_neg h, if_neg h]
theorem digI_lt {c : UInt8} : (digI c < 0) ↔ digQ c = false := by
 by_cases h : digQ c = true
 · have := digI_pos h
   rw [h]; constructor
   · intro h2; omega
   · intro h2; cases h2
 · have h' : digQ c = false := by simpa using h
   rw [h', digI_neg h']; decide
set_option maxHeartbeats 2000000 in
theorem ref_pair (s : ByteArray) (i : Nat) (_hs : s.size ≤ 1000000) (hi : i ≤ 1000000) (w : World) :
 Calls Tryz.prog 197 #[.string s, .int .i64 (i : Int)] w fun e w' => e = .returned (.int .i64 (pairI (s.data.toList.drop i))) ∧ ∃ n, w' = w.drewN n := by
 by_cases h : i + 2 ≤ s.size
 · rw [drop_two s i h, pairI_two]
   have i1 : (i : Int) < (s.size : Int) := by omega
   have i2 : (i : Int) + 1 < (s.size : Int) := by omega
   have i3 : (i : Int) + 2 ≤ (s.size : Int) := by omega
   have j1 : i < s.size := by omega
   have j2 : i + 1 < s.size := by omega
   have CA := Lib.hid (ref_digit s[i])
   have CB := Lib.hid (ref_digit s[i + 1])
   obtain ⟨a, ha⟩ : ∃ a, digI s[i] = a := ⟨_, rfl⟩
   obtain ⟨b, hb⟩ : ∃ b, digI s[i + 1] = b := ⟨_, rfl⟩
   rw [ha] at CA
   rw [hb] at CB
   by_cases qa : digQ s[i] = true
   · have ea := digI_pos qa
     rw [ha] at ea
     obtain ⟨ea, ea0, ea9⟩ := ea
     by_cases qb : digQ s[i + 1] = true
     · have eb := digI_pos qb
       rw [hb] at eb
       obtain ⟨eb, eb0, eb9⟩ := eb
       by_cases q5 : s[i].toNat ≤ 53
       · rw [qa, qb, decide_eq_true q5, if_pos (show (true && true && true) = true from rfl), ← ea, ← eb]
         have a5 : a ≤ 5 := by omega
         have q1 : IntKind.i64.wrap (10 * a) = 10 * a := IntWalk.i64_in _ (by omega)
         have q2 : IntKind.i64.wrap (10 * a + b) = 10 * a + b := IntWalk.i64_in _ (by omega)
         have q3 : IntKind.i64.wrap ((i : Int) + 1) = (i : Int) + 1 := IntWalk.i64_in _ (by omega)
         have q4 : ((i : Int) + 1).toNat = i + 1 := by omega
         have q6 : (0 : Int) ≤ (i : Int) + 1 := by omega
         clear qa qb ea eb q5 h
         go_enter Tryz.func197, Tryz.ntmps197
         go_wp2_with fail
         refine (CA.out _).mono ?_
         rintro e w' ⟨rfl, rfl⟩
         go_wp2_with fail
         refine (CB.out _).mono ?_
         rintro e w' ⟨rfl, rfl⟩
         go_wp2_with fail
         refine (CA.out _).mono ?_
         rintro e w' ⟨rfl, rfl⟩
         go_wp2_with fail
         go_quiet ((go_at_call 196; exact Calls.quiet_of_same (ref_digit _ _)))
         go_wp2_with fail
         go_ret
         exact ⟨rfl, _, rfl⟩
       · have a5 : 5 < a := by omega
         rw [qa, qb, decide_eq_false q5, if_neg (show ¬(true && true && false) = true by decide)]
         clear ha hb qa qb ea eb q5 h
         go_enter Tryz.func197, Tryz.ntmps197
         go_wp2_with fail
         refine (CA.out _).mono ?_
         rintro e w' ⟨rfl, rfl⟩
         go_wp2_with fail
         refine (CB.out _).mono ?_
         rintro e w' ⟨rfl, rfl⟩
         go_wp2_with fail
         refine (CA.out _).mono ?_
         rintro e w' ⟨rfl, rfl⟩
         go_wp2_with fail
         go_ret
         exact ⟨rfl, 0, rfl⟩
     · have qb' : digQ s[i + 1] = false := by simpa using qb
       have b0 : b < 0 := by rw [← hb]; exact digI_lt.2 qb'
       rw [qa, qb', if_neg (show ¬(true && false && _) = true by simp)]
       clear ha hb qa qb qb' ea h
       go_enter Tryz.func197, Tryz.ntmps197
       go_wp2_with fail
       refine (CA.out _).mono ?_
       rintro e w' ⟨rfl, rfl⟩
       go_wp2_with fail
       refine (CB.out _).mono ?_
       rintro e w' ⟨rfl, rfl⟩
       go_wp2_with fail
       go_ret
       exact ⟨rfl, 0, rfl⟩
   · have qa' : digQ s[i] = false := by simpa using qa
     have a0 : a < 0 := by rw [← ha]; exact digI_lt.2 qa'
     rw [qa', if_neg (show ¬(false && _ && _) = true by simp)]
     clear ha hb qa qa' h
     go_enter Tryz.func197, Tryz.ntmps197
     go_wp2_with fail
     refine (CA.out _).mono ?_
     rintro e w' ⟨rfl, rfl⟩
     go_wp2_with fail
     go_ret
     exact ⟨rfl, 0, rfl⟩
 · rw [pairI, pairL_short _ (by rw [List.length_drop, len_list]; omega)]
   have i3 : (s.size : Int) < (i : Int) + 2 := by omega
   clear h
   go_enter Tryz.func197, Tryz.ntmps197
   go_wp2_with fail
   go_ret
   exact ⟨rfl, 0, rfl⟩
theorem ref_pair' (s : ByteArray) (x : Int) (i : Nat) (hx : x = i) (hs : s.size ≤ 1000000) (hi : i ≤ 1000000) (w : World) :
 Calls Tryz.prog 197 #[.string s, .int .i64 x] w fun e w' => e = .returned (.int .i64 (pairI (s.data.toList.drop i))) ∧ ∃ n, w' = w.drewN n := by
 subst hx; exact ref_pair s i hs hi w
theorem run_of {p : UInt8 → Bool} : ∀ (k : Nat) (l : List UInt8), k ≤ l.length → (l.take k).all p = true → (k = l.length ∨ ∃ h : k < l.length, p l[k] = false) → run p l = l.take k ∧ past p l = l.drop k
 | 0, [], _, _, _ => ⟨rfl, rfl⟩
 | 0, c :: r, _, _, h => by
   rcases h with h | ⟨_, h⟩
   · simp at h
   · unfold run past
     have h' : p c = false := h
     rw [List.takeWhile_cons_of_neg (by rw [h']; decide), List.dropWhile_cons_of_neg (by rw [h']; decide)]
     exact ⟨rfl, rfl⟩
 | k + 1, [], hk, _, _ => by simp at hk
 | k + 1, c :: r, hk, ha, h => by
   rw [List.take_succ_cons, List.all_cons, Bool.and_eq_true] at ha
   have ih := run_of (p := p) k r (by simpa using hk) ha.2 (by
    rcases h with h | ⟨hh, h⟩
    · left; simpa using h
    · right; exact ⟨by simpa using hh, by simpa using h⟩)
   unfold run past at *
   rw [List.takeWhile_cons_of_pos ha.1, List.dropWhile_cons_of_pos ha.1, ih.1, ih.2]
   exact ⟨rfl, rfl⟩
theorem run_long {p : UInt8 → Bool} : ∀ (k : Nat) (l : List UInt8), k ≤ l.length → (l.take k).all p = true → k ≤ (run p l).length
 | 0, _, _, _ => Nat.zero_le _
 | k + 1, [], hk, _ => by simp at hk
 | k + 1, c :: r, hk, ha => by
   rw [List.take_succ_cons, List.all_cons, Bool.and_eq_true] at ha
   have ih := run_long (p := p) k r (by simpa using hk) ha.2
   unfold run at *
   rw [List.takeWhile_cons_of_pos ha.1, List.length_cons]
   omega
theorem fold_lt : ∀ (l : List UInt8) (x : Nat), l.all digQ = true → l.foldl (fun x c => 10 * x + (c.toNat - 48)) x < (x + 1) * 10 ^ l.length
 | [], x, _ => by simp
 | c :: r, x, h => by
   rw [List.all_cons, Bool.and_eq_true] at h
   have h2 := digQ_iff.1 h.1
   have ih := fold_lt r (10 * x + (c.toNat - 48)) h.2
   rw [List.foldl_cons, List.length_cons, Nat.pow_succ]
   have h3 : (10 * x + (c.toNat - 48) + 1) * 10 ^ r.length ≤ (10 * (x + 1)) * 10 ^ r.length := Nat.mul_le_mul_right _ (by omega)
   have h4 : (x + 1) * (10 ^ r.length * 10) = (10 * (x + 1)) * 10 ^ r.length := by
    rw [Nat.mul_comm (10 ^ r.length) 10, ← Nat.mul_assoc, Nat.mul_comm (x + 1) 10]
   omega
theorem valD_lt (l : List UInt8) (h : l.all digQ = true) : valD l < 10 ^ l.length := by
 have := fold_lt l 0 h
 simpa [valD] using this
def formR (l : List UInt8) : Int × Bool := match formL l with
 | none => (0, false)
 | some x => ((x : Int), true)
theorem formL_eq (l : List UInt8) : formL l = if run digQ l = [] ∨ 3 < (run digQ l).length ∨ (1 < (run digQ l).length ∧ (run digQ l).headD 0 = 48) then none else match tailL (past digQ l) with
 | none => none
 | some x => some (3600 * valD (run digQ l) + x) := rfl
theorem pairL_some {l r : List UInt8} {m : Nat} (h : pairL l = some (m, r)) : r = l.drop 2 ∧ 2 ≤ l.length ∧ m ≤ 59 := by
 match l with
 | [] => cases h
 | [_] => cases h
 | a :: b :: q =>
   have e : pairL (a :: b :: q) = if (digQ a && digQ b && decide (a.toNat ≤ 53)) = true then some (10 * (a.toNat - 48) + (b.toNat - 48), q) else none := rfl
   rw [e] at h
   by_cases hc : (digQ a && digQ b && decide (a.toNat ≤ 53)) = true
   · rw [if_pos hc] at h
     simp only [Bool.and_eq_true, decide_eq_true_eq] at hc
     have h1 := digQ_iff.1 hc.1.1
     have h2 := digQ_iff.1 hc.1.2
     simp only [Option.some.injEq, Prod.mk.injEq] at h
     refine ⟨h.2.symm, by simp, by omega⟩
   · rw [if_neg hc] at h; cases h
theorem drop_one (s : ByteArray) (i : Nat) (h : i < s.size) : s.data.toList.drop i = s[i] :: s.data.toList.drop (i + 1) := by
 rw [List.drop_eq_getElem_cons (by rw [len_list]; exact h)]; rfl
theorem formL_bad {s : ByteArray} {k : Nat} (hr : run digQ s.data.toList = s.data.toList.take k) (hk : k ≤ s.size) (h : k = 0 ∨ (1 < k ∧ ∃ h0 : 0 < s.size, s[0] = 48)) : formL s.data.toList = none := by
 rw [formL_eq, hr]
 rcases h with rfl | ⟨h1, h0, h2⟩
 · rw [if_pos (.inl rfl)]
 · refine if_pos (.inr (.inr ⟨by rw [List.length_take, len_list]; omega, ?_⟩))
   have := drop_one s 0 h0
   rw [List.drop_zero] at this
   rw [this]
   obtain ⟨j, rfl⟩ : ∃ j, k = j + 1 := ⟨k - 1, by omega⟩
   rw [List.take_succ_cons, List.headD_cons, h2]
theorem formL_good {s : ByteArray} {k : Nat} (hr : run digQ s.data.toList = s.data.toList.take k ∧ past digQ s.data.toList = s.data.toList.drop k) (hk : k ≤ s.size) (h0 : 0 < k) (h3 : k ≤ 3) (h : k = 1 ∨ ∃ h0 : 0 < s.size, s[0] ≠ 48) :
 formL s.data.toList = match tailL (s.data.toList.drop k) with
  | none => none
  | some x => some (3600 * valD (s.data.toList.take k) + x) := by
 rw [formL_eq, hr.1, hr.2]
 refine if_neg ?_
 have hl : (s.data.toList.take k).length = k := by rw [List.length_take, len_list]; omega
 rintro (h1 | h1 | h1)
 · rw [h1] at hl; simp at hl; omega
 · omega
 · rcases h with h | ⟨hp, h⟩
   · omega
   · apply h
     have := drop_one s 0 hp
     rw [List.drop_zero] at this
     have h2 := h1.2
     rw [this] at h2
     obtain ⟨j, rfl⟩ : ∃ j, k = j + 1 := ⟨k - 1, by omega⟩
     rwa [List.take_succ_cons, List.headD_cons] at h2
theorem tail_colon (r : List UInt8) : tailL (58 :: r) = match pairL r with
 | none => none
 | some (m, []) => some (60 * m)
 | some (m, c2 :: r3) => if c2 = 58 then
     match pairL r3 with
     | some (s, []) => some (60 * m + s)
     | _ => none
   else none := rfl
theorem tail_other {c : UInt8} (r : List UInt8) (h : c ≠ 58) : tailL (c :: r) = none := if_neg h
theorem pairI_none {l : List UInt8} (h : pairL l = none) : pairI l = -1 := by unfold pairI; rw [h]
theorem pairI_some {l r : List UInt8} {m : Nat} (h : pairL l = some (m, r)) : pairI l = m := by unfold pairI; rw [h]
def formPost (l : List UInt8) (w : World) (e : Ending) (w' : World) : Prop := e = .returned (.tuple #[.int .i64 (formR l).1, .bool (formR l).2]) ∧ Below w.heap.size w w'
theorem post_none {l : List UInt8} {w w' : World} {x y : Value} (hx : x = .int .i64 0) (hy : y = .bool false) (h : formL l = none) (hB : Below w.heap.size w w') : formPost l w (.returned (.tuple #[x, y])) w' := by
 unfold formPost formR
 rw [h, hx, hy]
 exact ⟨rfl, hB⟩
theorem post_some {l : List UInt8} {w w' : World} {x y : Value} {v : Nat} (h : formL l = some v) (hx : x = .int .i64 (v : Int)) (hy : y = .bool true) (hB : Below w.heap.size w w') : formPost l w (.returned (.tuple #[x, y])) w' := by
 unfold formPost formR
 rw [h, hx, hy]
 exact ⟨rfl, hB⟩
set_option maxHeartbeats 8000000 in
set_option maxRecDepth 100000 in
theorem ref_form (s : ByteArray) (hs : s.size ≤ 1000000) (w : World) :
 Calls Tryz.prog 157 #[.string s] w (formPost s.data.toList w) := by
 go_enter Tryz.func157, Tryz.ntmps157
 go_wp2_with fail
 go_loop [4, 5] (fun n h => ∃ k : Nat, k ≤ 3 ∧ k ≤ s.size ∧ (s.data.toList.take k).all digQ = true ∧ n = .int .i64 k ∧ h = .int .i64 (valD (s.data.toList.take k))) (fun n _ => 4 - (intOf n).toNat)
 case atStart => exact ⟨0, by omega, by omega, rfl, rfl, rfl⟩
 case round =>
  obtain ⟨k, hk3, hk, hall, rfl, rfl⟩ := hrel
  have hlt := valD_lt _ hall
  have hln : (s.data.toList.take k).length = k := by rw [List.length_take, len_list]; omega
  rw [hln] at hlt
  have hpw : 10 ^ k ≤ 1000 := by
   obtain rfl | rfl | rfl | rfl : k = 0 ∨ k = 1 ∨ k = 2 ∨ k = 3 := by omega
   all_goals decide
  obtain ⟨H, hH⟩ : ∃ H, valD (s.data.toList.take k) = H := ⟨_, rfl⟩
  rw [hH] at hlt ⊢
  have hH9 : H ≤ 999 := by omega
  have HH := Lib.hid hH
  have HALL := Lib.hid hall
  clear hlt hpw hH hall hln
  by_cases hks : k < s.size
  · have hki : (k : Int) < (s.size : Int) := by omega
    have CD := Lib.hid (ref_digit s[k])
    by_cases hd : digQ s[k] = true
    · obtain ⟨e1, e2, e3⟩ := digI_pos hd
      have hsn : s.data.toList.take (k + 1) = s.data.toList.take k ++ [s[k]] := Px.take_snoc s k hks
      have HA2 := Lib.hid (show (s.data.toList.take (k + 1)).all digQ = true by rw [hsn, List.all_append, HALL.out]; simp [hd])
      have HV2 := Lib.hid (show (valD (s.data.toList.take (k + 1)) : Int) = 10 * H + digI s[k] by
       rw [hsn, valD_snoc, HH.out, e1]; have := digQ_iff.1 hd; omega)
      obtain ⟨D, hD⟩ : ∃ D, digI s[k] = D := ⟨_, rfl⟩
      rw [hD] at CD HV2 e2 e3
      clear hd hsn e1 hD
      by_cases hk2 : k < 3
      · go_wp2_with fail
        refine (CD.out _).mono ?_
        rintro e w' ⟨rfl, rfl⟩
        go_wp2_with fail
        refine (CD.out _).mono ?_
        rintro e w' ⟨rfl, rfl⟩
        go_wp2_with fail
        go_round
        case rel => exact ⟨k + 1, by omega, by omega, HA2.out, by go_num, by rw [HV2.out]⟩
        case measure => simp [intOf]; omega
      · obtain rfl : k = 3 := by omega
        have hnone := Lib.hid (show formL s.data.toList = none by
         rw [formL_eq, if_pos (.inr (.inl (run_long 4 _ (by rw [len_list]; omega) HA2.out)))])
        go_wp2_with fail
        refine (CD.out _).mono ?_
        rintro e w' ⟨rfl, rfl⟩
        go_wp2_with fail
        refine (CD.out _).mono ?_
        rintro e w' ⟨rfl, rfl⟩
        go_wp2_with fail
        go_ret2
        exact post_none rfl rfl hnone.out (Below.refl _ _)
    · have hd' : digQ s[k] = false := by simpa using hd
      have hr := run_of (p := digQ) k s.data.toList (by rw [len_list]; omega) HALL.out (.inr ⟨by rw [len_list]; exact hks, hd'⟩)
      have hn : digI s[k] < 0 := digI_lt.2 hd'
      have HR := Lib.hid hr
      obtain ⟨D, hD⟩ : ∃ D, digI s[k] = D := ⟨_, rfl⟩
      rw [hD] at CD hn
      clear hd hd' hr hD
      by_cases hbad : k = 0 ∨ (1 < k ∧ ∃ h0 : 0 < s.size, s[0] = 48)
      · have hnone := Lib.hid (formL_bad HR.out.1 hk hbad)
        rcases hbad with rfl | ⟨hb1, hb0, hb⟩
        · go_wp2_with fail
          refine (CD.out _).mono ?_
          rintro e w' ⟨rfl, rfl⟩
          go_wp2_with fail
          go_ret2
          exact post_none rfl rfl hnone.out (Below.refl _ _)
        · have t0 : ((k : Int) == 0) = false := by rw [beq_eq_false_iff_ne]; omega
          have t1 : ((s[0].toNat : Int) == 48) = true := by rw [hb]; rfl
          have hb1' : (1 : Int) < (k : Int) := by omega
          clear hb
          go_wp2_with fail
          refine (CD.out _).mono ?_
          rintro e w' ⟨rfl, rfl⟩
          go_wp2_with fail
          go_ret2
          exact post_none rfl rfl hnone.out (Below.refl _ _)
      · have hk0 : 0 < k := by omega
        have hs0 : 0 < s.size := by omega
        have hgood : (k : Int) ≤ 1 ∨ ((1 : Int) < (k : Int) ∧ ((s[0].toNat : Int) == 48) = false) := by
         by_cases hk1 : k = 1
         · left; omega
         · right
           refine ⟨by omega, ?_⟩
           rw [beq_eq_false_iff_ne]
           intro h
           exact hbad (.inr ⟨by omega, hs0, UInt8.toNat_inj.1 (by have : (48 : UInt8).toNat = 48 := rfl; omega)⟩)
        have HF := Lib.hid (formL_good HR.out hk hk0 hk3 (by
         by_cases hk1 : k = 1
         · exact .inl hk1
         · exact .inr ⟨hs0, fun h => hbad (.inr ⟨by omega, hs0, h⟩)⟩))
        have t0 : ((k : Int) == 0) = false := by rw [beq_eq_false_iff_ne]; omega
        have tl : ((s.size : Int) == (k : Int)) = false := by rw [beq_eq_false_iff_ne]; omega
        have HH2 := Lib.hid (show valD (s.data.toList.take k) = H from HH.out)
        have HD1 := Lib.hid (drop_one s k hks)
        have HP1 := Lib.hid (fun w => ref_pair' s ((k : Int) + 1) (k + 1) (by omega) hs (by omega) w)
        have HP2 := Lib.hid (fun w => ref_pair' s ((k : Int) + 4) (k + 4) (by omega) hs (by omega) w)
        obtain ⟨P1, hP1⟩ : ∃ P, pairI (s.data.toList.drop (k + 1)) = P := ⟨_, rfl⟩
        obtain ⟨P2, hP2⟩ : ∃ P, pairI (s.data.toList.drop (k + 4)) = P := ⟨_, rfl⟩
        rw [hP1] at HP1
        rw [hP2] at HP2
        obtain ⟨ck, hck⟩ : ∃ c, s[k] = c := ⟨_, rfl⟩
        have HCK := Lib.hid hck
        by_cases hc : ck = 58
        · have tc : ((s[k].toNat : Int) != 58) = false := by rw [hck, hc]; rfl
          rw [HD1.out, hck, hc, tail_colon] at HF
          cases hp1 : pairL (s.data.toList.drop (k + 1)) with
          | none =>
            rw [hp1] at HF
            rw [pairI_none hp1] at hP1
            subst hP1
            clear hP2 HP2 hck hc hp1 hbad
            rcases hgood with hg | ⟨hg, hg2⟩
            all_goals
             go_wp2_with fail
             refine (CD.out _).mono ?_
             rintro e w' ⟨rfl, rfl⟩
             go_wp2_with fail
             refine (HP1.out _).mono ?_
             rintro e w' ⟨rfl, n1, rfl⟩
             go_wp2_with fail
             go_ret2
             exact post_none rfl rfl HF.out (Civ.below_drewN (Below.refl _ _) _)
          | some q =>
            obtain ⟨m, r⟩ := q
            obtain ⟨hr1, hr2, hm⟩ := pairL_some hp1
            rw [List.drop_drop] at hr1
            have hk3 : k + 3 ≤ s.size := by rw [List.length_drop, len_list] at hr2; omega
            rw [hp1] at HF
            rw [pairI_some hp1] at hP1
            subst hP1
            have hmi : (m : Int) ≤ 59 := by omega
            have hm0 : ¬ (m : Int) < 0 := by omega
            by_cases hk4 : k + 3 = s.size
            · have hr0 : r = [] := by rw [hr1]; exact List.drop_eq_nil_of_le (by rw [len_list]; omega)
              rw [hr0] at HF
              dsimp only at HF
              rw [HH2.out] at HF
              have tl3 : ((s.size : Int) == (k : Int) + 3) = true := by rw [beq_iff_eq]; omega
              clear hP2 HP2 hck hc hp1 hbad hr1 hr0 hr2
              rcases hgood with hg | ⟨hg, hg2⟩
              all_goals
               go_wp2_with fail
               refine (CD.out _).mono ?_
               rintro e w' ⟨rfl, rfl⟩
               go_wp2_with fail
               refine (HP1.out _).mono ?_
               rintro e w' ⟨rfl, n1, rfl⟩
               go_wp2_with fail
               go_ret2
               exact post_some HF.out (congrArg (Value.int .i64) (by omega)) rfl (Civ.below_drewN (Below.refl _ _) _)
            · have hk3' : k + 3 < s.size := by omega
              have hrc : r = s[k + 3] :: s.data.toList.drop (k + 4) := by rw [hr1]; exact drop_one s (k + 3) hk3'
              rw [hrc] at HF
              dsimp only at HF
              have tl3 : ((s.size : Int) == (k : Int) + 3) = false := by rw [beq_eq_false_iff_ne]; omega
              have hk3i : (k : Int) + 3 < (s.size : Int) := by omega
              by_cases hd3 : s[k + 3] = 58
              · rw [if_pos hd3] at HF
                have td : ((s[k + 3].toNat : Int) != 58) = false := by rw [hd3]; rfl
                cases hp2 : pairL (s.data.toList.drop (k + 4)) with
                | none =>
                  rw [hp2] at HF
                  rw [pairI_none hp2] at hP2
                  subst hP2
                  clear hck hc hp1 hp2 hbad hr1 hr2 hrc hd3
                  rcases hgood with hg | ⟨hg, hg2⟩
                  all_goals
                   go_wp2_with fail
                   refine (CD.out _).mono ?_
                   rintro e w' ⟨rfl, rfl⟩
                   go_wp2_with fail
                   refine (HP1.out _).mono ?_
                   rintro e w' ⟨rfl, n1, rfl⟩
                   go_wp2_with fail
                   refine (HP2.out _).mono ?_
                   rintro e w' ⟨rfl, n2, rfl⟩
                   go_wp2_with fail
                   go_ret2
                   exact post_none rfl rfl HF.out (Civ.below_drewN (Below.refl _ _) _)
                | some q2 =>
                  obtain ⟨m2, r4⟩ := q2
                  obtain ⟨hs1, hs2, hm2⟩ := pairL_some hp2
                  rw [List.drop_drop] at hs1
                  have hk6 : k + 6 ≤ s.size := by rw [List.length_drop, len_list] at hs2; omega
                  rw [hp2] at HF
                  rw [pairI_some hp2] at hP2
                  subst hP2
                  have hmi2 : (m2 : Int) ≤ 59 := by omega
                  have hm02 : ¬ (m2 : Int) < 0 := by omega
                  by_cases hk7 : k + 6 = s.size
                  · have hr0 : r4 = [] := by rw [hs1]; exact List.drop_eq_nil_of_le (by rw [len_list]; omega)
                    rw [hr0] at HF
                    dsimp only at HF
                    rw [HH2.out] at HF
                    have tl6 : ((s.size : Int) != (k : Int) + 6) = false := by rw [bne_eq_false_iff_eq]; omega
                    clear hck hc hp1 hp2 hbad hr1 hr2 hrc hd3 hs1 hs2 hr0
                    rcases hgood with hg | ⟨hg, hg2⟩
                    all_goals
                     go_wp2_with fail
                     refine (CD.out _).mono ?_
                     rintro e w' ⟨rfl, rfl⟩
                     go_wp2_with fail
                     refine (HP1.out _).mono ?_
                     rintro e w' ⟨rfl, n1, rfl⟩
                     go_wp2_with fail
                     refine (HP2.out _).mono ?_
                     rintro e w' ⟨rfl, n2, rfl⟩
                     go_wp2_with fail
                     go_ret2
                     exact post_some HF.out (congrArg (Value.int .i64) (by omega)) rfl (Civ.below_drewN (Below.refl _ _) _)
                  · have hr0 : ∃ x y, r4 = x :: y := ⟨_, _, by rw [hs1]; exact drop_one s (k + 6) (by omega)⟩
                    obtain ⟨x, y, hr0⟩ := hr0
                    rw [hr0] at HF
                    dsimp only at HF
                    have tl6 : ((s.size : Int) != (k : Int) + 6) = true := by rw [bne_iff_ne]; omega
                    clear hck hc hp1 hp2 hbad hr1 hr2 hrc hd3 hs1 hs2 hr0
                    rcases hgood with hg | ⟨hg, hg2⟩
                    all_goals
                     go_wp2_with fail
                     refine (CD.out _).mono ?_
                     rintro e w' ⟨rfl, rfl⟩
                     go_wp2_with fail
                     refine (HP1.out _).mono ?_
                     rintro e w' ⟨rfl, n1, rfl⟩
                     go_wp2_with fail
                     refine (HP2.out _).mono ?_
                     rintro e w' ⟨rfl, n2, rfl⟩
                     go_wp2_with fail
                     go_ret2
                     exact post_none rfl rfl HF.out (Civ.below_drewN (Below.refl _ _) _)
              · rw [if_neg hd3] at HF
                have td : ((s[k + 3].toNat : Int) != 58) = true := by rw [bne_iff_ne]; intro h; exact hd3 (UInt8.toNat_inj.1 (by have : (58 : UInt8).toNat = 58 := rfl; omega))
                clear hP2 hck hc hp1 hbad hr1 hr2 hrc hd3
                rcases hgood with hg | ⟨hg, hg2⟩
                all_goals
                 go_wp2_with fail
                 refine (CD.out _).mono ?_
                 rintro e w' ⟨rfl, rfl⟩
                 go_wp2_with fail
                 refine (HP1.out _).mono ?_
                 rintro e w' ⟨rfl, n1, rfl⟩
                 go_wp2_with fail
                 refine (HP2.out _).mono ?_
                 rintro e w' ⟨rfl, n2, rfl⟩
                 go_wp2_with fail
                 go_ret2
                 exact post_none rfl rfl HF.out (Civ.below_drewN (Below.refl _ _) _)
        · have tc : ((s[k].toNat : Int) != 58) = true := by rw [hck, bne_iff_ne]; intro h; exact hc (UInt8.toNat_inj.1 (by have : (58 : UInt8).toNat = 58 := rfl; omega))
          rw [HD1.out, hck, tail_other _ hc] at HF
          clear hP1 hP2 HP2 hck hc hbad
          rcases hgood with hg | ⟨hg, hg2⟩
          all_goals
           go_wp2_with fail
           refine (CD.out _).mono ?_
           rintro e w' ⟨rfl, rfl⟩
           go_wp2_with fail
           refine (HP1.out _).mono ?_
           rintro e w' ⟨rfl, n1, rfl⟩
           go_wp2_with fail
           go_ret2
           exact post_none rfl rfl HF.out (Civ.below_drewN (Below.refl _ _) _)
  · obtain rfl : k = s.size := by omega
    have hr := run_of (p := digQ) s.size s.data.toList (by rw [len_list]; omega) HALL.out (.inl (len_list s).symm)
    have HR := Lib.hid hr
    clear hr
    by_cases hbad : s.size = 0 ∨ (1 < s.size ∧ ∃ h0 : 0 < s.size, s[0] = 48)
    · have hnone := Lib.hid (formL_bad HR.out.1 hk hbad)
      rcases hbad with hz | ⟨hb1, hb0, hb⟩
      · have t0 : ((s.size : Int) == 0) = true := by rw [beq_iff_eq]; omega
        clear hz
        go_wp2_with fail
        go_ret2
        exact post_none rfl rfl hnone.out (Below.refl _ _)
      · have t0 : ((s.size : Int) == 0) = false := by rw [beq_eq_false_iff_ne]; omega
        have t1 : ((s[0].toNat : Int) == 48) = true := by rw [hb]; rfl
        have hb1' : (1 : Int) < (s.size : Int) := by omega
        clear hb
        go_wp2_with fail
        go_ret2
        exact post_none rfl rfl hnone.out (Below.refl _ _)
    · have hs0 : 0 < s.size := by omega
      have hgood : (s.size : Int) ≤ 1 ∨ ((1 : Int) < (s.size : Int) ∧ ((s[0].toNat : Int) == 48) = false) := by
       by_cases hk1 : s.size = 1
       · left; omega
       · right
         refine ⟨by omega, ?_⟩
         rw [beq_eq_false_iff_ne]
         intro h
         exact hbad (.inr ⟨by omega, hs0, UInt8.toNat_inj.1 (by have : (48 : UInt8).toNat = 48 := rfl; omega)⟩)
      have HF := Lib.hid (formL_good HR.out hk hs0 hk3 (by
       by_cases hk1 : s.size = 1
       · exact .inl hk1
       · exact .inr ⟨hs0, fun h => hbad (.inr ⟨by omega, hs0, h⟩)⟩))
      have hdn : s.data.toList.drop s.size = [] := List.drop_eq_nil_of_le (by rw [len_list]; omega)
      rw [hdn] at HF
      have e0 : tailL [] = some 0 := rfl
      rw [e0] at HF
      dsimp only at HF
      rw [HH.out] at HF
      have t0 : ((s.size : Int) == 0) = false := by rw [beq_eq_false_iff_ne]; omega
      clear hbad hdn e0
      rcases hgood with hg | ⟨hg, hg2⟩
      all_goals
       go_wp2_with fail
       go_ret2
       exact post_some HF.out (congrArg (Value.int .i64) (by omega)) rfl (Below.refl _ _)
end Go.Proofs.YtkpmmabdpeobaaaGreatDoor.Off
namespace Go.Proofs.YtkpmmabdpeobaaaGreatDoor.Px
open Go.RowKit
open Civ
theorem later_any (x y : Int) (p q r : Bool) (hr : decide (y < x ∨ (x = y ∧ p = true)) = r) (w : World) :
 Calls Tryz.prog 153 #[.agg #[.int .i64 x, .bool p], .agg #[.int .i64 y, .bool q]] w fun e w' => e = .returned (.bool r) ∧ Below w.heap.size w w' := by
 by_cases h1 : y < x
 · obtain rfl : r = true := by rw [← hr]; exact decide_eq_true (.inl h1)
   clear hr
   go_enter Tryz.func153, Tryz.ntmps153
   go_wp2_with fail
   go_ret
   exact ⟨rfl, ((Below.refl _ _).alloc (Nat.le_refl _) _).alloc (by simp) _⟩
 · by_cases h2 : x = y
   · subst h2
     have hb : ((x : Int) == x) = true := beq_self_eq_true x
     cases p
     · obtain rfl : r = false := by rw [← hr]; exact decide_eq_false (fun h => by rcases h with h | h; exact h1 h; cases h.2)
       clear hr
       go_enter Tryz.func153, Tryz.ntmps153
       go_wp2_with fail
       go_ret
       exact ⟨rfl, ((Below.refl _ _).alloc (Nat.le_refl _) _).alloc (by simp) _⟩
     · obtain rfl : r = true := by rw [← hr]; exact decide_eq_true (.inr ⟨rfl, rfl⟩)
       clear hr
       go_enter Tryz.func153, Tryz.ntmps153
       go_wp2_with fail
       go_ret
       exact ⟨rfl, ((Below.refl _ _).alloc (Nat.le_refl _) _).alloc (by simp) _⟩
   · obtain rfl : r = false := by rw [← hr]; exact decide_eq_false (fun h => by rcases h with h | h; exact h1 h; exact h2 h.1)
     have hb : ((x : Int) == y) = false := beq_eq_false_iff_ne.2 h2
     clear hr h2
     go_enter Tryz.func153, Tryz.ntmps153
     go_wp2_with fail
     go_ret
     exact ⟨rfl, ((Below.refl _ _).alloc (Nat.le_refl _) _).alloc (by simp) _⟩
end Go.Proofs.YtkpmmabdpeobaaaGreatDoor.Px
