/- The functions posix.Check and analemmaref37.Check: which TZs are right. -/
import Derived.Test.YtgllbagmmpicaaaGreatDoorPxN
import Derived.Deep.DeepCutAuto
namespace Go.Proofs.YtgllbagmmpicaaaGreatDoor.Px
open Go.RowKit
open Civ

/-- a TZ -/
structure Pos where
  std : ByteArray
  stdOff : Int
  dst : ByteArray
  dstOff : Int
  start : Dt
  stop : Dt
  deriving DecidableEq
def Pos.val (p : Pos) : Value := .agg #[.string p.std, .int .i64 p.stdOff, .string p.dst, .int .i64 p.dstOff, .int .i64 p.start.kind, .int .i64 p.start.day, .int .i64 p.start.month, .int .i64 p.start.week, .int .i64 p.start.sec,
  .int .i64 p.stop.kind, .int .i64 p.stop.day, .int .i64 p.stop.month, .int .i64 p.stop.week, .int .i64 p.stop.sec]
def Dt.zero : Dt := ⟨0, 0, 0, 0, 0⟩
def offB (x : Int) : Bool := decide (-89999 ≤ x ∧ x ≤ 89999)
def Pos.stdB (p : Pos) : Bool := nameOk p.std.data.toList && offB p.stdOff
def noneQ (c : ByteArray) (d k1 d1 m1 w1 s1 k2 d2 m2 w2 s2 : Int) : Bool := c.toList.isEmpty && decide (d = 0) && decide (k1 = 0) && decide (d1 = 0) && decide (m1 = 0) && decide (w1 = 0) && decide (s1 = 0) && decide (k2 = 0) && decide (d2 = 0) && decide (m2 = 0) && decide (w2 = 0) && decide (s2 = 0)
def Pos.noneB (p : Pos) : Bool := noneQ p.dst p.dstOff p.start.kind p.start.day p.start.month p.start.week p.start.sec p.stop.kind p.stop.day p.stop.month p.stop.week p.stop.sec
def Pos.dstB (p : Pos) : Bool := nameOk p.dst.data.toList && offB p.dstOff && p.start.ok && p.stop.ok
/-- whether a TZ is right -/
def Pos.ok (p : Pos) : Bool := p.stdB && (p.noneB || p.dstB)
/-- the error of a TZ that is right, or is not -/
def codeE (r : Bool) : Int := if r then 0 else 2
/-- a block that is a struct's cells -/
def RowAt (W : World) (b : Nat) (cs : Array Value) : Prop := b < W.heap.size ∧ ∀ i, W.cell? ⟨b, i, none⟩ = cs[i]?
theorem RowAt.keep {W W' : World} {b : Nat} {cs : Array Value} (h : RowAt W b cs) (hB : Below W.heap.size W W') : RowAt W' b cs :=
  ⟨Nat.lt_of_lt_of_le h.1 hB.size, fun i => (hB.cell (p := ⟨b, i, none⟩) h.1).trans (h.2 i)⟩
theorem rowAt_alloc (w : World) (cs : Array Value) (T : Nat) : RowAt (w.alloc (.cells cs T)) w.heap.size cs := ⟨by simp, fun _ => World.cell?_alloc_at _ _ _ _ rfl⟩
theorem RowAt.pos {V : World} {B : Nat} {a c : ByteArray} {b d k1 d1 m1 w1 s1 k2 d2 m2 w2 s2 : Int} (h : RowAt V B #[.string a, .int .i64 b, .string c, .int .i64 d, .int .i64 k1, .int .i64 d1, .int .i64 m1, .int .i64 w1, .int .i64 s1, .int .i64 k2, .int .i64 d2, .int .i64 m2, .int .i64 w2, .int .i64 s2]) :
    V.cell? ⟨B, 0, none⟩ = some (.string a) ∧ V.cell? ⟨B, 1, none⟩ = some (.int .i64 b) ∧ V.cell? ⟨B, 2, none⟩ = some (.string c) ∧ V.cell? ⟨B, 3, none⟩ = some (.int .i64 d) ∧ V.cell? ⟨B, 4, none⟩ = some (.int .i64 k1) ∧ V.cell? ⟨B, 5, none⟩ = some (.int .i64 d1) ∧ V.cell? ⟨B, 6, none⟩ = some (.int .i64 m1) ∧ V.cell? ⟨B, 7, none⟩ = some (.int .i64 w1) ∧ V.cell? ⟨B, 8, none⟩ = some (.int .i64 s1) ∧ V.cell? ⟨B, 9, none⟩ = some (.int .i64 k2) ∧ V.cell? ⟨B, 10, none⟩ = some (.int .i64 d2) ∧ V.cell? ⟨B, 11, none⟩ = some (.int .i64 m2) ∧ V.cell? ⟨B, 12, none⟩ = some (.int .i64 w2) ∧ V.cell? ⟨B, 13, none⟩ = some (.int .i64 s2) :=
  ⟨h.2 0, h.2 1, h.2 2, h.2 3, h.2 4, h.2 5, h.2 6, h.2 7, h.2 8, h.2 9, h.2 10, h.2 11, h.2 12, h.2 13⟩
set_option maxHeartbeats 4000000 in
set_option maxRecDepth 100000 in
theorem check_cells (a c : ByteArray) (b d k1 d1 m1 w1 s1 k2 d2 m2 w2 s2 : Int) (ha : a.size ≤ 1000000) (hc : c.size ≤ 1000000) (r : Bool)
    (hr : (nameOk a.data.toList && offB b && (noneQ c d k1 d1 m1 w1 s1 k2 d2 m2 w2 s2 || (nameOk c.data.toList && offB d && Dt.ok ⟨k1, d1, m1, w1, s1⟩ && Dt.ok ⟨k2, d2, m2, w2, s2⟩))) = r) (w : World) :
    Calls Tryz.prog 15 #[.agg #[.string a, .int .i64 b, .string c, .int .i64 d, .int .i64 k1, .int .i64 d1, .int .i64 m1, .int .i64 w1, .int .i64 s1, .int .i64 k2, .int .i64 d2, .int .i64 m2, .int .i64 w2, .int .i64 s2]] w fun e w' => e = .returned (.int .i64 (codeE r)) ∧ Below w.heap.size w w' := by
  have CN := Lib.hid (name_any a ha)
  have CM := Lib.hid (name_any c hc)
  have CO := Lib.hid (in64 b (-89999) 89999 (offB b) rfl)
  have CP := Lib.hid (in64 d (-89999) 89999 (offB d) rfl)
  have CD := Lib.hid (date_any ⟨k1, d1, m1, w1, s1⟩)
  have CE := Lib.hid (date_any ⟨k2, d2, m2, w2, s2⟩)
  have HNQ := Lib.hid (show noneQ c d k1 d1 m1 w1 s1 k2 d2 m2 w2 s2 = (c.toList.isEmpty && decide (d = 0) && decide (k1 = 0) && decide (d1 = 0) && decide (m1 = 0) && decide (w1 = 0) && decide (s1 = 0) && decide (k2 = 0) && decide (d2 = 0) && decide (m2 = 0) && decide (w2 = 0) && decide (s2 = 0)) from rfl)
  obtain ⟨b1, h1⟩ : ∃ x, nameOk a.data.toList = x := ⟨_, rfl⟩
  obtain ⟨b2, h2⟩ : ∃ x, offB b = x := ⟨_, rfl⟩
  obtain ⟨b3, h3⟩ : ∃ x, noneQ c d k1 d1 m1 w1 s1 k2 d2 m2 w2 s2 = x := ⟨_, rfl⟩
  obtain ⟨b4, h4⟩ : ∃ x, nameOk c.data.toList = x := ⟨_, rfl⟩
  obtain ⟨b5, h5⟩ : ∃ x, offB d = x := ⟨_, rfl⟩
  obtain ⟨b6, h6⟩ : ∃ x, Dt.ok ⟨k1, d1, m1, w1, s1⟩ = x := ⟨_, rfl⟩
  obtain ⟨b7, h7⟩ : ∃ x, Dt.ok ⟨k2, d2, m2, w2, s2⟩ = x := ⟨_, rfl⟩
  rw [h1] at CN hr
  rw [h2] at CO hr
  rw [h3] at HNQ hr
  rw [h4] at CM hr
  rw [h5] at CP hr
  rw [h6] at CD hr
  rw [h7] at CE hr
  subst hr
  clear h1 h2 h3 h4 h5 h6 h7
  go_enter Tryz.func15, Tryz.ntmps15
  go_upto_region 1 with fail
  have HA := Lib.hid ((Below.refl _ w).alloc (Nat.le_refl _) (.cells #[.string a, .int .i64 b, .string c, .int .i64 d, .int .i64 k1, .int .i64 d1, .int .i64 m1, .int .i64 w1, .int .i64 s1, .int .i64 k2, .int .i64 d2, .int .i64 m2, .int .i64 w2, .int .i64 s2] 25))
  have HR := Lib.hid (rowAt_alloc w #[.string a, .int .i64 b, .string c, .int .i64 d, .int .i64 k1, .int .i64 d1, .int .i64 m1, .int .i64 w1, .int .i64 s1, .int .i64 k2, .int .i64 d2, .int .i64 m2, .int .i64 w2, .int .i64 s2] 25)
  go_cut [3] (fun s wx => s = .bool (b1 && b2) ∧ Below w.heap.size w wx ∧ RowAt wx w.heap.size #[.string a, .int .i64 b, .string c, .int .i64 d, .int .i64 k1, .int .i64 d1, .int .i64 m1, .int .i64 w1, .int .i64 s1, .int .i64 k2, .int .i64 d2, .int .i64 m2, .int .i64 w2, .int .i64 s2])
  case first =>
    go_wp2_with fail
    refine (CN.out _).mono ?_
    rintro e V ⟨rfl, hb⟩
    obtain ⟨c0, c1, c2, c3, c4, c5, c6, c7, c8, c9, c10, c11, c12, c13⟩ := (HR.out.keep hb).pos
    have HV := Lib.hid hb
    clear hb
    cases b1
    · go_wp2_with fail
      go_meet
      exact ⟨rfl, HA.out.trans (HV.out.mono HA.out.size), HR.out.keep HV.out⟩
    · go_wp2_with fail
      refine (CO.out _).mono ?_
      rintro e w' ⟨rfl, rfl⟩
      go_wp2_with fail
      go_meet
      exact ⟨rfl, HA.out.trans (HV.out.mono HA.out.size), HR.out.keep HV.out⟩
  case rest =>
    obtain ⟨rfl, hb1, hr1⟩ := hcut
    obtain ⟨c0, c1, c2, c3, c4, c5, c6, c7, c8, c9, c10, c11, c12, c13⟩ := hr1.pos
    have HB1 := Lib.hid hb1
    have HR1 := Lib.hid hr1
    clear hb1 hr1
    go_upto_region 2 with fail
    obtain ⟨W1, rfl⟩ : ∃ W1, W1 = wc := ⟨_, rfl⟩
    go_cut [0, 4] (fun _ s wx => s = .bool b3 ∧ wx = W1)
    case first =>
      go_wp2_with fail
      all_goals (go_meet; refine ⟨congrArg Value.bool ?_, rfl⟩; rw [HNQ.out]; simp [*])
    case rest =>
      obtain ⟨rfl, rfl⟩ := hcut
      clear HNQ
      obtain ⟨W2, rfl⟩ : ∃ W2, W2 = wc := ⟨_, rfl⟩
      go_upto_region 3 with fail
      go_cut [5] (fun s wx => s = .bool (b4 && b5 && b6 && b7) ∧ Below W2.heap.size W2 wx)
      case first =>
        go_wp2_with fail
        refine (CM.out _).mono ?_
        rintro e V ⟨rfl, hb⟩
        have HV := Lib.hid hb
        have HRV := Lib.hid (HR1.out.keep hb)
        clear hb c0 c1 c2 c3 c4 c5 c6 c7 c8 c9 c10 c11 c12 c13
        obtain ⟨e0, e1, e2, e3, e4, e5, e6, e7, e8, e9, e10, e11, e12, e13⟩ := HRV.out.pos
        cases b4
        · go_wp2_with fail
          go_meet
          exact ⟨rfl, HV.out⟩
        · go_wp2_with fail
          refine (CP.out _).mono ?_
          rintro e w' ⟨rfl, rfl⟩
          cases b5
          · go_wp2_with fail
            go_meet
            exact ⟨rfl, HV.out⟩
          · go_wp2_with fail
            refine (CD.out _).mono ?_
            rintro e X ⟨rfl, hb⟩
            have HX := Lib.hid (HV.out.trans (hb.mono HV.out.size))
            have HRX := Lib.hid (HRV.out.keep hb)
            clear hb e0 e1 e2 e3 e4 e5 e6 e7 e8 e9 e10 e11 e12 e13
            obtain ⟨c0, c1, c2, c3, c4, c5, c6, c7, c8, c9, c10, c11, c12, c13⟩ := HRX.out.pos
            cases b6
            · go_wp2_with fail
              go_meet
              exact ⟨rfl, HX.out⟩
            · go_wp2_with fail
              refine (CE.out _).mono ?_
              rintro e Y ⟨rfl, hb⟩
              have HY := Lib.hid (HX.out.trans (hb.mono HX.out.size))
              clear hb
              go_wp2_with fail
              go_meet
              exact ⟨rfl, HY.out⟩
      case rest =>
        obtain ⟨rfl, hb3⟩ := hcut
        have HB3 := Lib.hid (HB1.out.trans (hb3.mono HB1.out.size))
        obtain ⟨b45, h45⟩ : ∃ x, (b4 && b5 && b6 && b7) = x := ⟨_, rfl⟩
        obtain ⟨b12, h12⟩ : ∃ x, (b1 && b2) = x := ⟨_, rfl⟩
        have H45 := Lib.hid h45
        have H12 := Lib.hid h12
        rw [h45, h12]
        clear hb3 c0 c1 c2 c3 c4 c5 c6 c7 c8 c9 c10 c11 c12 c13 h45 h12
        cases b12
        · go_wp2_with fail
          go_ret
          exact ⟨ret1 (by rw [H45.out, H12.out]; rfl), HB3.out⟩
        · cases b3
          · cases b45
            · go_wp2_with fail
              go_ret
              exact ⟨ret1 (by rw [H45.out, H12.out]; rfl), HB3.out⟩
            · go_wp2_with fail
              go_ret
              exact ⟨ret1 (by rw [H45.out, H12.out]; rfl), HB3.out⟩
          · go_wp2_with fail
            go_ret
            exact ⟨ret1 (by rw [H45.out, H12.out]; rfl), HB3.out⟩
theorem check_any (p : Pos) (ha : p.std.size ≤ 1000000) (hc : p.dst.size ≤ 1000000) (w : World) :
    Calls Tryz.prog 15 #[p.val] w fun e w' => e = .returned (.int .i64 (codeE p.ok)) ∧ Below w.heap.size w w' := by
  obtain ⟨a, b, c, d, ⟨k1, d1, m1, w1, s1⟩, ⟨k2, d2, m2, w2, s2⟩⟩ := p
  exact check_cells a c b d k1 d1 m1 w1 s1 k2 d2 m2 w2 s2 ha hc _ rfl w
end Go.Proofs.YtgllbagmmpicaaaGreatDoor.Px
