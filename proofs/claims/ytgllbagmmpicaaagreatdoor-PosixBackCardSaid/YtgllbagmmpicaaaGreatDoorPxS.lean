/- The function analemmaref37.At at a TZ with daylight saving time: the local time of the last event that is not behind the instant. -/
import Derived.Test.YtgllbagmmpicaaaGreatDoorPxR
import Derived.Deep.RegionWith
namespace Go.Proofs.YtgllbagmmpicaaaGreatDoor.Px
open Go.RowKit
open Civ

/-- the blocks of the reference's loop -/
structure AtInv (w : World) (P : Array Value) (R S : Nat) (x y z : Array Value) (V wr : World) : Prop where
  below : Below w.heap.size w wr
  row : RowAt wr w.heap.size P
  res : wr.heap[R]? = some (.cells #[.int .i64 0, .bool false, .string ⟨#[]⟩] 35 (0, 0))
  std : wr.heap[S]? = some (.cells x 35 (0, 0))
  dst : wr.heap[S + 1]? = some (.cells y 35 (0, 0))
  loc : wr.heap[S + 2]? = some (.cells z 35 (0, 0))
theorem AtInv.keep {w : World} {P : Array Value} {R S : Nat} {x y z : Array Value} {V wr W : World} (h : AtInv w P R S x y z V wr) (hB : Below wr.heap.size wr W) : AtInv w P R S x y z V W :=
  ⟨h.below.trans (hB.mono h.below.size), h.row.keep hB, heap_keep h.res hB, heap_keep h.std hB, heap_keep h.dst hB, heap_keep h.loc hB⟩
theorem RowAt.over {W W1 W' : World} {b : Nat} {cs : Array Value} (h : RowAt W b cs) (hB : Below W1.heap.size W1 W') (he : W1.heap = W.heap) : RowAt W' b cs := by
  have h1 : RowAt W1 b cs := ⟨by rw [he]; exact h.1, fun i => by have := h.2 i; unfold World.cell? at *; rw [he]; exact this⟩
  exact h1.keep hB
theorem below_over {W W1 W' : World} (hB : Below W1.heap.size W1 W') (he : W1.heap = W.heap) (ho : W1.os = W.os) (ht : W1.tape = W.tape) (hp : W1.output = W.output) : Below W.heap.size W W' :=
  ⟨hB.os.trans ho, hB.tape.trans ht, hB.output.trans hp, by have := hB.size; rw [he] at this; exact this, fun i hi => by have := hB.block i (by rw [he]; exact hi); rw [he] at this; exact this⟩
theorem stepL_pos {t : Int} {s b : Ev} (h : b.1 ≤ t ∧ (s.1 < b.1 ∨ (b.1 = s.1 ∧ b.2 = true))) : stepL t s b = b := if_pos h
theorem stepL_neg {t : Int} {s b : Ev} (h : ¬(b.1 ≤ t ∧ (s.1 < b.1 ∨ (b.1 = s.1 ∧ b.2 = true)))) : stepL t s b = s := if_neg h
theorem cell_other {w : World} {b i j : Nat} {u : Value} (c : Nat) (hne : c ≠ b) : (w.setCell ⟨b, i, none⟩ u).cell? ⟨c, j, none⟩ = w.cell? ⟨c, j, none⟩ := by
  unfold World.cell?
  rw [Below.heap_setCell _ _ _ _ hne]
theorem AtInv.set {w : World} {P : Array Value} {R S : Nat} {x y z : Array Value} {V wr : World} (h : AtInv w P R S x y z V wr) (hw : w.heap.size < S) (hR : R < S) (i : Nat) (u : Value) :
    AtInv w P R S x y (z.setIfInBounds i u) V (wr.setCell ⟨S + 1 + 1, i, none⟩ u) :=
  ⟨h.below.setCell (by show w.heap.size ≤ S + 1 + 1; omega) u, ⟨by simpa using h.row.1, fun j => (cell_other _ (by omega)).trans (h.row.2 j)⟩, (Below.heap_setCell _ _ _ _ (by show R ≠ S + 1 + 1; omega)).trans h.res,
    (Below.heap_setCell _ _ _ _ (by show S ≠ S + 1 + 1; omega)).trans h.std, (Below.heap_setCell _ _ _ _ (by show S + 1 ≠ S + 1 + 1; omega)).trans h.dst, cells_set h.loc i u⟩
def locOf (a c : ByteArray) (b d : Int) (s : Bool) : Array Value := if s then #[.int .i64 d, .bool true, .string c] else #[.int .i64 b, .bool false, .string a]
set_option maxHeartbeats 8000000 in
set_option maxRecDepth 100000 in
theorem ref_at_dst (a c : ByteArray) (b d k1 d1 m1 w1 s1 k2 d2 m2 w2 s2 : Int) (t : Int) (t0 : -36028797018963968 ≤ t) (t1 : t ≤ 36028797018963968) (ha : a.size ≤ 1000000) (hc : c.size ≤ 1000000) (hne : c.toList.isEmpty = false)
    (h1 : Dt.ok ⟨k1, d1, m1, w1, s1⟩ = true) (h2 : Dt.ok ⟨k2, d2, m2, w2, s2⟩ = true) (o1 : offB b = true) (o2 : offB d = true) (hp : Pos.ok ⟨a, b, c, d, ⟨k1, d1, m1, w1, s1⟩, ⟨k2, d2, m2, w2, s2⟩⟩ = true) (w : World) :
    Calls Tryz.prog 18 #[.agg #[.string a, .int .i64 b, .string c, .int .i64 d, .int .i64 k1, .int .i64 d1, .int .i64 m1, .int .i64 w1, .int .i64 s1, .int .i64 k2, .int .i64 d2, .int .i64 m2, .int .i64 w2, .int .i64 s2], .int .i64 t] w fun e w' => e = .returned (.tuple #[.agg (locOf a c b d (lastP ⟨a, b, c, d, ⟨k1, d1, m1, w1, s1⟩, ⟨k2, d2, m2, w2, s2⟩⟩ t).2), .int .i64 0]) ∧ Below w.heap.size w w' := by
  have CC := Lib.hid (ref_check ⟨a, b, c, d, ⟨k1, d1, m1, w1, s1⟩, ⟨k2, d2, m2, w2, s2⟩⟩ ha hc)
  rw [hp] at CC
  have CY := Lib.hid (ref_Year t (by omega) (by omega) (by omega) (by omega))
  have HL := Lib.hid (lastP_R (p := ⟨a, b, c, d, ⟨k1, d1, m1, w1, s1⟩, ⟨k2, d2, m2, w2, s2⟩⟩) h1 h2 o1 o2 t t0 t1)
  have hyb : -2000000 * 1000 + 10 ≤ yearT t ∧ yearT t ≤ 2000000 * 1000 - 10 := by
    have hy := yearOf_ok (t / 86400)
    have hb : -1999999990 ≤ yearOf (t / 86400) ∧ yearOf (t / 86400) ≤ 1999999990 := by
      obtain ⟨a, b⟩ := hy
      unfold jan at a b
      omega
    unfold yearT
    rw [if_neg (by omega), if_neg (by omega)]
    omega
  obtain ⟨Y, hY⟩ : ∃ Y, yearT t = Y := ⟨_, rfl⟩
  rw [hY] at CY HL hyb
  obtain ⟨y0, y1⟩ := hyb
  have O1 := offB_iff.1 o1
  have O2 := offB_iff.1 o2
  obtain ⟨o10, o11⟩ := O1
  obtain ⟨o20, o21⟩ := O2
  have S1 := ((Dt.ok_iff _).1 h1).1
  have S2 := ((Dt.ok_iff _).1 h2).1
  obtain ⟨s10, s11⟩ := S1
  obtain ⟨s20, s21⟩ := S2
  dsimp only at s10 s11 s20 s21
  have HO1 := Lib.hid h1
  have HO2 := Lib.hid h2
  obtain ⟨lb, hlb⟩ : ∃ l, (lastP ⟨a, b, c, d, ⟨k1, d1, m1, w1, s1⟩, ⟨k2, d2, m2, w2, s2⟩⟩ t).2 = l := ⟨_, rfl⟩
  rw [hlb]
  have HLB := Lib.hid hlb
  have HA := Lib.hid (((Below.refl _ w).alloc (Nat.le_refl _) (.cells #[.string a, .int .i64 b, .string c, .int .i64 d, .int .i64 k1, .int .i64 d1, .int .i64 m1, .int .i64 w1, .int .i64 s1, .int .i64 k2, .int .i64 d2, .int .i64 m2, .int .i64 w2, .int .i64 s2] 25)).alloc (by simp) (.cells #[.int .i64 0, .bool false, .string ⟨#[]⟩] 35))
  have HRW := Lib.hid ((rowAt_alloc w #[.string a, .int .i64 b, .string c, .int .i64 d, .int .i64 k1, .int .i64 d1, .int .i64 m1, .int .i64 w1, .int .i64 s1, .int .i64 k2, .int .i64 d2, .int .i64 m2, .int .i64 w2, .int .i64 s2] 25).keep ((Below.refl _ _).alloc (Nat.le_refl _) (.cells #[.int .i64 0, .bool false, .string ⟨#[]⟩] 35)))
  clear hp h1 h2 o1 o2 hY hlb
  go_enter Tryz.func18, Tryz.ntmps18
  go_wp2_with fail
  refine (CC.out _).mono ?_
  rintro e V ⟨rfl, hb⟩
  rw [show codeE true = 0 from rfl]
  have hres := heap_keep (b := w.heap.size + 1) (x := .cells #[.int .i64 0, .bool false, .string ⟨#[]⟩] 35 (0, 0)) (by rw [← show (w.alloc (.cells #[.string a, .int .i64 b, .string c, .int .i64 d, .int .i64 k1, .int .i64 d1, .int .i64 m1, .int .i64 w1, .int .i64 s1, .int .i64 k2, .int .i64 d2, .int .i64 m2, .int .i64 w2, .int .i64 s2] 25)).heap.size = w.heap.size + 1 by simp]; exact heap_new _ _) hb
  have hrow := HRW.out.keep hb
  have HV := Lib.hid (HA.out.trans (hb.mono HA.out.size))
  obtain ⟨c0, c1, c2, c3, c4, c5, c6, c7, c8, c9, c10, c11, c12, c13⟩ := hrow.pos
  have HRES := Lib.hid hres
  have HROW := Lib.hid hrow
  have hz1 : w.heap.size + 1 < V.heap.size := lt_of_block hres
  have hz0 : w.heap.size < V.heap.size := by omega
  have tr1 : decide (t < -36028797018963968) = false := decide_eq_false (by omega)
  have tr2 : decide (36028797018963968 < t) = false := decide_eq_false (by omega)
  clear hb hres hrow
  go_wp2_with fail
  refine (CY.out _).mono ?_
  rintro e w' ⟨rfl, rfl⟩
  clear c0 c1 c2 c3 c4 c5 c6 c7 c8 c9 c10 c11 c12 c13
  go_wp2_with fail
  go_loopw [8, 11] (fun l y wr => ∃ (k : Nat) (s : Ev), k ≤ 7 ∧ y = .int .i64 (Y - 3 + k) ∧ l = .int .i64 s.1 ∧ s = foldY (twoR ⟨a, b, c, d, ⟨k1, d1, m1, w1, s1⟩, ⟨k2, d2, m2, w2, s2⟩⟩ t) ev0 (Y - 3) k ∧
    AtInv w #[.string a, .int .i64 b, .string c, .int .i64 d, .int .i64 k1, .int .i64 d1, .int .i64 m1, .int .i64 w1, .int .i64 s1, .int .i64 k2, .int .i64 d2, .int .i64 m2, .int .i64 w2, .int .i64 s2] (w.heap.size + 1) V.heap.size #[.int .i64 b, .bool false, .string a] #[.int .i64 d, .bool true, .string c] (locOf a c b d s.2) V wr) (fun _ y _ => (Y + 4 - intOf y).toNat)
  case atStart =>
    have hB3 : Below V.heap.size V (((V.alloc (.cells #[.int .i64 b, .bool false, .string a] 35)).alloc (.cells #[.int .i64 d, .bool true, .string c] 35)).alloc (.cells #[.int .i64 b, .bool false, .string a] 35)) :=
      (((Below.refl _ V).alloc (Nat.le_refl _) _).alloc (by simp) _).alloc (by simp; omega) _
    refine ⟨0, ev0, by omega, by simp, rfl, rfl, ⟨HV.out.trans (hB3.mono HV.out.size), HROW.out.keep hB3, heap_keep HRES.out hB3, heap_old (heap_old (heap_new V _) _) _, ?_, ?_⟩⟩
    · have h := heap_new (V.alloc (.cells #[.int .i64 b, .bool false, .string a] 35)) (.cells #[.int .i64 d, .bool true, .string c] 35)
      rw [show (V.alloc (.cells #[.int .i64 b, .bool false, .string a] 35)).heap.size = V.heap.size + 1 by simp] at h
      exact heap_old h _
    · have h := heap_new ((V.alloc (.cells #[.int .i64 b, .bool false, .string a] 35)).alloc (.cells #[.int .i64 d, .bool true, .string c] 35)) (.cells #[.int .i64 b, .bool false, .string a] 35)
      rw [show ((V.alloc (.cells #[.int .i64 b, .bool false, .string a] 35)).alloc (.cells #[.int .i64 d, .bool true, .string c] 35)).heap.size = V.heap.size + 2 by simp] at h
      exact h
  case round =>
    obtain ⟨k, s, hk, rfl, rfl, hs, inv⟩ := hrel
    have HI := Lib.hid inv
    have HS := Lib.hid hs
    have hwz : w.heap.size < wr.heap.size := inv.row.1
    clear inv hs
    obtain ⟨yv, hyv⟩ : ∃ yv, Y - 3 + (k : Int) = yv := ⟨_, rfl⟩
    have hy0 : -1999999999 ≤ yv := by omega
    have hy1 : yv ≤ 1999999999 := by omega
    have HYV := Lib.hid hyv
    have C1 := Lib.hid (ref_day ⟨k1, d1, m1, w1, s1⟩ yv HO1.out (by omega) (by omega))
    have C2 := Lib.hid (ref_day ⟨k2, d2, m2, w2, s2⟩ yv HO2.out (by omega) (by omega))
    have bd1 := dayD_bd HO1.out yv
    have bd2 := dayD_bd HO2.out yv
    have bj := jan_bd (y := yv) (by omega) (by omega)
    obtain ⟨D1, hD1⟩ : ∃ D, dayD ⟨k1, d1, m1, w1, s1⟩ yv = D := ⟨_, rfl⟩
    obtain ⟨D2, hD2⟩ : ∃ D, dayD ⟨k2, d2, m2, w2, s2⟩ yv = D := ⟨_, rfl⟩
    rw [hD1] at C1 bd1
    rw [hD2] at C2 bd2
    have b10 : -2000000001000 ≤ D1 := by omega
    have b11 : D1 ≤ 2000000001000 := by omega
    have b20 : -2000000001000 ≤ D2 := by omega
    have b21 : D2 ≤ 2000000001000 := by omega
    have HD1 := Lib.hid hD1
    have HD2 := Lib.hid hD2
    clear bd1 bd2 bj hD1 hD2
    by_cases hlt : k < 7
    · have t7 : yv ≤ Y + 3 := by omega
      rw [hyv]
      clear hyv
      go_wp2_with fail
      go_cut [12] (fun x wx => x = .int .i64 (86400 * D1 + s1 - b) ∧ Below wr.heap.size wr wx)
      case first =>
        obtain ⟨c0, c1, c2, c3, c4, c5, c6, c7, c8, c9, c10, c11, c12, c13⟩ := HI.out.row.pos
        have q1 : IntKind.i64.wrap (86400 * D1) = 86400 * D1 := IntWalk.i64_in _ (by omega)
        have q2 : IntKind.i64.wrap (86400 * D1 + s1) = 86400 * D1 + s1 := IntWalk.i64_in _ (by omega)
        have q3 : IntKind.i64.wrap (86400 * D1 + s1 - b) = 86400 * D1 + s1 - b := IntWalk.i64_in _ (by omega)
        go_region_with (go_at_call 49; refine (C1.out _).mono ?_; rintro e X ⟨rfl, hb⟩; obtain ⟨e0, e1, e2, e3, e4, e5, e6, e7, e8, e9, e10, e11, e12, e13⟩ := (HI.out.row.over hb rfl).pos; have HX : Hid (Below wr.heap.size wr X) := Lib.hid (below_over hb rfl rfl rfl rfl); clear hb)
        all_goals (go_wp2_with fail; go_meet; exact ⟨rfl, HX.out⟩)
      case rest =>
        obtain ⟨rfl, hb1⟩ := hcut
        have HI1 := Lib.hid (HI.out.keep hb1)
        clear hb1
        obtain ⟨X1, rfl⟩ : ∃ X1, X1 = wc := ⟨_, rfl⟩
        go_wp2_with fail
        go_cut [13] (fun x wx => x = .int .i64 (86400 * D2 + s2 - d) ∧ Below X1.heap.size X1 wx)
        case first =>
          obtain ⟨c0, c1, c2, c3, c4, c5, c6, c7, c8, c9, c10, c11, c12, c13⟩ := HI1.out.row.pos
          have hwz1 : w.heap.size < X1.heap.size := HI1.out.row.1
          have q1 : IntKind.i64.wrap (86400 * D2) = 86400 * D2 := IntWalk.i64_in _ (by omega)
          have q2 : IntKind.i64.wrap (86400 * D2 + s2) = 86400 * D2 + s2 := IntWalk.i64_in _ (by omega)
          have q3 : IntKind.i64.wrap (86400 * D2 + s2 - d) = 86400 * D2 + s2 - d := IntWalk.i64_in _ (by omega)
          go_region_with (go_at_call 49; refine (C2.out _).mono ?_; rintro e X ⟨rfl, hb⟩; obtain ⟨e0, e1, e2, e3, e4, e5, e6, e7, e8, e9, e10, e11, e12, e13⟩ := (HI1.out.row.over hb rfl).pos; have HX : Hid (Below X1.heap.size X1 X) := Lib.hid (below_over hb rfl rfl rfl rfl); clear hb)
          all_goals (go_wp2_with fail; go_meet; exact ⟨rfl, HX.out⟩)
        case rest =>
          obtain ⟨rfl, hb2⟩ := hcut
          have HI2 := Lib.hid (HI1.out.keep hb2)
          clear hb2
          obtain ⟨X2, rfl⟩ : ∃ X2, X2 = wc := ⟨_, rfl⟩
          have HB := Lib.hid (show 86400 * D1 + s1 - b = begI ⟨a, b, c, d, ⟨k1, d1, m1, w1, s1⟩, ⟨k2, d2, m2, w2, s2⟩⟩ (Y - 3 + k) by rw [HYV.out]; unfold begI; dsimp only; rw [HD1.out])
          have HE := Lib.hid (show 86400 * D2 + s2 - d = endI ⟨a, b, c, d, ⟨k1, d1, m1, w1, s1⟩, ⟨k2, d2, m2, w2, s2⟩⟩ (Y - 3 + k) by rw [HYV.out]; unfold endI; dsimp only; rw [HD2.out])
          obtain ⟨B, hB⟩ : ∃ B, 86400 * D1 + s1 - b = B := ⟨_, rfl⟩
          obtain ⟨E, hE⟩ : ∃ E, 86400 * D2 + s2 - d = E := ⟨_, rfl⟩
          rw [hB] at HB ⊢
          rw [hE] at HE ⊢
          clear hB hE C1 C2
          have HF := Lib.hid (show foldY (twoR ⟨a, b, c, d, ⟨k1, d1, m1, w1, s1⟩, ⟨k2, d2, m2, w2, s2⟩⟩ t) ev0 (Y - 3) (k + 1) = stepL t (stepL t s (E, false)) (B, true) by
            show twoR _ _ (foldY _ _ _ k) _ = _
            rw [← HS.out]; unfold twoR; rw [← HB.out, ← HE.out])
          obtain ⟨sl, sd⟩ := s
          obtain ⟨⟨x0, x1, x2⟩, fx0, fx1, fx2⟩ := row3 HI2.out.std
          obtain ⟨⟨z0, z1, z2⟩, fz0, fz1, fz2⟩ := row3 HI2.out.dst
          have hloc : ∃ u0 u1 u2, locOf a c b d sd = #[u0, u1, u2] := by cases sd <;> exact ⟨_, _, _, rfl⟩
          obtain ⟨u0, u1, u2, hu⟩ := hloc
          have hL := HI2.out.loc
          dsimp only at hL
          rw [hu] at hL
          obtain ⟨⟨v0, v1, v2⟩, fv0, fv1, fv2⟩ := row3 hL
          have HI3 := Lib.hid (show AtInv w #[.string a, .int .i64 b, .string c, .int .i64 d, .int .i64 k1, .int .i64 d1, .int .i64 m1, .int .i64 w1, .int .i64 s1, .int .i64 k2, .int .i64 d2, .int .i64 m2, .int .i64 w2, .int .i64 s2] (w.heap.size + 1) V.heap.size #[.int .i64 b, .bool false, .string a] #[.int .i64 d, .bool true, .string c] #[u0, u1, u2] V X2 by have h := HI2.out; dsimp only at h; rwa [hu] at h)
          have HYN := Lib.hid (show Value.int .i64 (yv + 1) = Value.int .i64 (Y - 3 + ((k + 1 : Nat) : Int)) from congrArg (Value.int .i64) (by have := HYV.out; omega))
          clear hL hu
          by_cases a1 : E ≤ t
          · by_cases a2 : sl < E
            · by_cases a3 : B ≤ t
              · by_cases a4 : E ≤ B
                · have a5 : E < B ∨ (B = E ∧ true = true) := by
                    by_cases q : B = E
                    · exact .inr ⟨q, rfl⟩
                    · exact .inl (by omega)
                  go_wp2_with fail
                  refine ⟨⟨k + 1, (B, true), by omega, HYN.out, rfl, by rw [HF.out, stepL_pos (s := (sl, sd)) (b := (E, false)) ⟨a1, .inl a2⟩, stepL_pos (s := (E, false)) (b := (B, true)) ⟨a3, a5⟩], ((((((HI3.out.set hz0 hz1 0 (.int .i64 b)).set hz0 hz1 1 (.bool false)).set hz0 hz1 2 (.string a)).set hz0 hz1 0 (.int .i64 d)).set hz0 hz1 1 (.bool true)).set hz0 hz1 2 (.string c))⟩, by simp [intOf]; omega⟩
                · go_wp2_with fail
                  refine ⟨⟨k + 1, (E, false), by omega, HYN.out, rfl, by rw [HF.out, stepL_pos (s := (sl, sd)) (b := (E, false)) ⟨a1, .inl a2⟩, stepL_neg (s := (E, false)) (b := (B, true)) (fun h => a4 (by rcases h.2 with h | h; exact Int.le_of_lt h; exact Int.le_of_eq h.1.symm))], (((HI3.out.set hz0 hz1 0 (.int .i64 b)).set hz0 hz1 1 (.bool false)).set hz0 hz1 2 (.string a))⟩, by simp [intOf]; omega⟩
              · go_wp2_with fail
                refine ⟨⟨k + 1, (E, false), by omega, HYN.out, rfl, by rw [HF.out, stepL_pos (s := (sl, sd)) (b := (E, false)) ⟨a1, .inl a2⟩, stepL_neg (s := (E, false)) (b := (B, true)) (fun h => a3 h.1)], (((HI3.out.set hz0 hz1 0 (.int .i64 b)).set hz0 hz1 1 (.bool false)).set hz0 hz1 2 (.string a))⟩, by simp [intOf]; omega⟩
            · by_cases a3 : B ≤ t
              · by_cases a4 : sl ≤ B
                · have a5 : sl < B ∨ (B = sl ∧ true = true) := by
                    by_cases q : B = sl
                    · exact .inr ⟨q, rfl⟩
                    · exact .inl (by omega)
                  go_wp2_with fail
                  refine ⟨⟨k + 1, (B, true), by omega, HYN.out, rfl, by rw [HF.out, stepL_neg (s := (sl, sd)) (b := (E, false)) (fun h => by rcases h.2 with h | h; exact a2 h; cases h.2), stepL_pos (s := (sl, sd)) (b := (B, true)) ⟨a3, a5⟩], (((HI3.out.set hz0 hz1 0 (.int .i64 d)).set hz0 hz1 1 (.bool true)).set hz0 hz1 2 (.string c))⟩, by simp [intOf]; omega⟩
                · go_wp2_with fail
                  refine ⟨⟨k + 1, (sl, sd), by omega, HYN.out, rfl, by rw [HF.out, stepL_neg (s := (sl, sd)) (b := (E, false)) (fun h => by rcases h.2 with h | h; exact a2 h; cases h.2), stepL_neg (s := (sl, sd)) (b := (B, true)) (fun h => a4 (by rcases h.2 with h | h; exact Int.le_of_lt h; exact Int.le_of_eq h.1.symm))], HI2.out⟩, by simp [intOf]; omega⟩
              · go_wp2_with fail
                refine ⟨⟨k + 1, (sl, sd), by omega, HYN.out, rfl, by rw [HF.out, stepL_neg (s := (sl, sd)) (b := (E, false)) (fun h => by rcases h.2 with h | h; exact a2 h; cases h.2), stepL_neg (s := (sl, sd)) (b := (B, true)) (fun h => a3 h.1)], HI2.out⟩, by simp [intOf]; omega⟩
          · by_cases a3 : B ≤ t
            · by_cases a4 : sl ≤ B
              · have a5 : sl < B ∨ (B = sl ∧ true = true) := by
                  by_cases q : B = sl
                  · exact .inr ⟨q, rfl⟩
                  · exact .inl (by omega)
                go_wp2_with fail
                refine ⟨⟨k + 1, (B, true), by omega, HYN.out, rfl, by rw [HF.out, stepL_neg (s := (sl, sd)) (b := (E, false)) (fun h => a1 h.1), stepL_pos (s := (sl, sd)) (b := (B, true)) ⟨a3, a5⟩], (((HI3.out.set hz0 hz1 0 (.int .i64 d)).set hz0 hz1 1 (.bool true)).set hz0 hz1 2 (.string c))⟩, by simp [intOf]; omega⟩
              · go_wp2_with fail
                refine ⟨⟨k + 1, (sl, sd), by omega, HYN.out, rfl, by rw [HF.out, stepL_neg (s := (sl, sd)) (b := (E, false)) (fun h => a1 h.1), stepL_neg (s := (sl, sd)) (b := (B, true)) (fun h => a4 (by rcases h.2 with h | h; exact Int.le_of_lt h; exact Int.le_of_eq h.1.symm))], HI2.out⟩, by simp [intOf]; omega⟩
            · go_wp2_with fail
              refine ⟨⟨k + 1, (sl, sd), by omega, HYN.out, rfl, by rw [HF.out, stepL_neg (s := (sl, sd)) (b := (E, false)) (fun h => a1 h.1), stepL_neg (s := (sl, sd)) (b := (B, true)) (fun h => a3 h.1)], HI2.out⟩, by simp [intOf]; omega⟩
    · obtain rfl : k = 7 := by omega
      have h7 : yv = Y + 4 := by omega
      rw [hyv]
      clear hyv
      subst h7
      have hsd : s.2 = lb := by rw [HS.out, HL.out, HLB.out]
      have hL := HI.out.loc
      rw [hsd] at hL
      have hR := HI.out.res
      obtain ⟨⟨r0, r1, r2⟩, fr0, fr1, fr2⟩ := row3 hR
      have HBW := Lib.hid HI.out.below
      clear hsd hR C1 C2
      cases lb
      · obtain ⟨⟨v0, v1, v2⟩, fv0, fv1, fv2⟩ := row3 (show wr.heap[V.heap.size + 2]? = some (.cells #[.int .i64 b, .bool false, .string a] 35 (0, 0)) from hL)
        clear hL
        go_wp2_with fail
        refine bodyPost_ret (v := .tuple #[.agg #[.int .i64 b, .bool false, .string a], .int .i64 0]) (by simp [results, Tryz.results18, go_sem, r0, r1, r2]) rfl ⟨rfl, ?_⟩
        exact ((HBW.out.setCell (by simp) _).setCell (by simp) _).setCell (by simp) _
      · obtain ⟨⟨v0, v1, v2⟩, fv0, fv1, fv2⟩ := row3 (show wr.heap[V.heap.size + 2]? = some (.cells #[.int .i64 d, .bool true, .string c] 35 (0, 0)) from hL)
        clear hL
        go_wp2_with fail
        refine bodyPost_ret (v := .tuple #[.agg #[.int .i64 d, .bool true, .string c], .int .i64 0]) (by simp [results, Tryz.results18, go_sem, r0, r1, r2]) rfl ⟨rfl, ?_⟩
        exact ((HBW.out.setCell (by simp) _).setCell (by simp) _).setCell (by simp) _
end Go.Proofs.YtgllbagmmpicaaaGreatDoor.Px
