/- The law PosixBegins, plain: the last beginnings of nine years tell what is in force. No program in sight. The law PosixBegins returns true for every TZ by numbers and every year: the walks. -/
import Derived.Test.YtgllbagmmpicaaaGreatDoorPmQ
import Derived.Test.YtgllbagmmpicaaaGreatDoorPrE
import Derived.Test.YtgllbagmmpicaaaGreatDoorPmG
import Derived.Test.YtgllbagmmpicaaaGreatDoorKp
namespace Go.Proofs.YtgllbagmmpicaaaGreatDoor.Px
open Go.RowKit
open Civ

/-- the latest of some instants that is not behind an instant -/
def maxS (t : Int) (a x : Int) : Int := if x ≤ t then max a x else a
def lastL (t : Int) (L : List Int) : Int := L.foldl (maxS t) (-4611686018427387904)
theorem lastL_snoc (t : Int) (L : List Int) (x : Int) : lastL t (L ++ [x]) = maxS t (lastL t L) x := by unfold lastL; rw [List.foldl_append]; rfl
theorem lastL_bd (t : Int) : ∀ (L : List Int) (a : Int), a ≤ L.foldl (maxS t) a ∧ (L.foldl (maxS t) a = a ∨ L.foldl (maxS t) a ≤ t)
  | [], a => ⟨Int.le_refl _, .inl rfl⟩
  | x :: r, a => by
    have ih := lastL_bd t r (maxS t a x)
    rw [List.foldl_cons]
    have h : a ≤ maxS t a x ∧ (maxS t a x = a ∨ maxS t a x ≤ t) := by
      unfold maxS
      split <;> omega
    omega
def begL (p : Pos) (y : Int) : Nat → List Int
  | 0 => []
  | n + 1 => begL p y n ++ [begI p (y + n)]
def endL (p : Pos) (y : Int) : Nat → List Int
  | 0 => []
  | n + 1 => endL p y n ++ [endI p (y + n)]
theorem begL_len (p : Pos) (y : Int) : ∀ n, (begL p y n).length = n
  | 0 => rfl
  | n + 1 => by show (begL p y n ++ _).length = _; rw [List.length_append, begL_len p y n]; rfl
theorem endL_len (p : Pos) (y : Int) : ∀ n, (endL p y n).length = n
  | 0 => rfl
  | n + 1 => by show (endL p y n ++ _).length = _; rw [List.length_append, endL_len p y n]; rfl
def Inv2 (s : Ev) (B E : Int) : Prop := (s = ev0 ∧ B = -4611686018427387904 ∧ E = -4611686018427387904) ∨ s = (max B E, decide (E ≤ B))
theorem inv2_beg {s : Ev} {B E t x : Int} (h : Inv2 s B E) (hx : -4611686018427387904 < x) : Inv2 (stepL t s (x, true)) (maxS t B x) E := by
  unfold maxS
  by_cases ht : x ≤ t
  · rw [if_pos ht]
    rcases h with ⟨rfl, rfl, rfl⟩ | rfl
    · rw [stepL_pos ⟨ht, .inl hx⟩]
      right
      rw [decide_eq_true (show (-4611686018427387904 : Int) ≤ max (-4611686018427387904) x by omega), show max (max (-4611686018427387904) x) (-4611686018427387904) = x by omega]
    · by_cases hm : max B E ≤ x
      · rw [stepL_pos ⟨ht, by
          rcases (show max B E < x ∨ x = max B E by omega) with h | h
          · exact .inl h
          · exact .inr ⟨h, rfl⟩⟩]
        right
        rw [decide_eq_true (show E ≤ max B x by omega), show max (max B x) E = x by omega]
      · rw [stepL_neg (by dsimp only; omega)]
        right
        rw [show max (max B x) E = max B E by omega]
        congr 1
        rw [decide_eq_decide]
        omega
  · rw [if_neg ht, stepL_neg (by dsimp only; omega)]
    exact h
theorem inv2_end {s : Ev} {B E t x : Int} (h : Inv2 s B E) (hx : -4611686018427387904 < x) : Inv2 (stepL t s (x, false)) B (maxS t E x) := by
  unfold maxS
  by_cases ht : x ≤ t
  · rw [if_pos ht]
    rcases h with ⟨rfl, rfl, rfl⟩ | rfl
    · rw [stepL_pos ⟨ht, .inl hx⟩]
      right
      rw [decide_eq_false (show ¬ max (-4611686018427387904) x ≤ (-4611686018427387904 : Int) by omega), show max (-4611686018427387904) (max (-4611686018427387904) x) = x by omega]
    · by_cases hm : max B E < x
      · rw [stepL_pos ⟨ht, .inl hm⟩]
        right
        rw [decide_eq_false (show ¬ max E x ≤ B by omega), show max B (max E x) = x by omega]
      · rw [stepL_neg (by rintro ⟨_, h | h⟩; exact hm h; cases h.2)]
        right
        rw [show max B (max E x) = max B E by omega]
        congr 1
        rw [decide_eq_decide]
        omega
  · rw [if_neg ht, stepL_neg (by dsimp only; omega)]
    exact h
theorem inv2_fold {p : Pos} (h1 : p.start.ok = true) (h2 : p.stop.ok = true) (o1 : offB p.stdOff = true) (o2 : offB p.dstOff = true) (t : Int) {y : Int} (hy : -2000000000 ≤ y) :
    ∀ n : Nat, Inv2 (foldY (twoP p t) ev0 y n) (lastL t (begL p y n)) (lastL t (endL p y n))
  | 0 => .inl ⟨rfl, rfl, rfl⟩
  | n + 1 => by
    have ih := inv2_fold h1 h2 o1 o2 t hy n
    show Inv2 (twoP p t (foldY _ _ _ n) (y + n)) (lastL t (begL p y n ++ _)) (lastL t (endL p y n ++ _))
    rw [lastL_snoc, lastL_snoc]
    have b1 := beg_low h1 o1 (y := y + n) (by omega)
    have b2 := end_low h2 o2 (y := y + n) (by omega)
    exact inv2_end (inv2_beg ih (by omega)) (by omega)
/-- where the beginnings of a year lie -/
theorem beg_bd {p : Pos} (h1 : p.start.ok = true) (o1 : offB p.stdOff = true) (y : Int) : 86400 * jan y - 700000 ≤ begI p y ∧ begI p y ≤ 86400 * jan y + 32300000 := by
  have d := dayD_bd h1 y
  have s := ((Dt.ok_iff _).1 h1).1
  rw [offB_iff] at o1
  unfold begI
  omega
theorem end_bd {p : Pos} (h1 : p.stop.ok = true) (o1 : offB p.dstOff = true) (y : Int) : 86400 * jan y - 700000 ≤ endI p y ∧ endI p y ≤ 86400 * jan y + 32300000 := by
  have d := dayD_bd h1 y
  have s := ((Dt.ok_iff _).1 h1).1
  rw [offB_iff] at o1
  unfold endI
  omega
theorem last_two {p : Pos} (h1 : p.start.ok = true) (h2 : p.stop.ok = true) (o1 : offB p.stdOff = true) (o2 : offB p.dstOff = true) {y t : Int} (hy : -1000010 ≤ y) (hy2 : y ≤ 1000010) (ht : 86400 * jan y - 700010 ≤ t) (ht2 : t ≤ 86400 * jan y + 32300010) :
    (lastP p t).2 = decide (lastL t (endL p (y - 4) 9) ≤ lastL t (begL p (y - 4) 9)) := by
  have hj : -400000000 ≤ jan y ∧ jan y ≤ 400000000 := by unfold jan; omega
  obtain ⟨e1, b1, b2⟩ := year_bd (t := t) (by omega) (by omega)
  have hY := yearOf_ok (t / 86400)
  have hY1 : y - 1 ≤ yearOf (t / 86400) := by
    by_cases h : yearOf (t / 86400) < y - 1
    · have j1 := jan_lt (show y - 1 < y by omega)
      by_cases hh : yearOf (t / 86400) + 1 = y - 1
      · rw [hh] at hY; omega
      · have j2 := jan_lt (show yearOf (t / 86400) + 1 < y - 1 by omega)
        omega
    · omega
  have hY2 : yearOf (t / 86400) ≤ y + 1 := by
    by_cases h : y + 1 < yearOf (t / 86400)
    · have j1 := jan_lt (show y < y + 1 by omega)
      have j2 := jan_lt h
      omega
    · omega
  have hL := isLast_P p t ev0 (y - 4) 9
  have he : lastP p t = foldY (twoP p t) ev0 (y - 4) 9 := by
    unfold lastP
    rw [e1]
    exact isLast_eq h1 h2 o1 o2 hY.1 hY.2 (isLast_P p t ev0 _ 5) hL (by omega) (by omega) (by omega) (by omega)
  rw [he]
  have hz : begI p (y - 4) ≤ t := by
    have := (beg_bd h1 o1 (y - 4)).2
    have j1 := jan_lt (show y - 4 < y - 3 by omega)
    have j2 := jan_lt (show y - 3 < y - 2 by omega)
    have j3 := jan_lt (show y - 2 < y by omega)
    omega
  have hle := (hL.2.1 0 (by omega)).1 (by rw [show y - 4 + ((0 : Nat) : Int) = y - 4 by omega]; exact hz)
  rw [show y - 4 + ((0 : Nat) : Int) = y - 4 by omega] at hle
  have hlow := beg_low h1 o1 (y := y - 4) (by omega)
  rcases inv2_fold h1 h2 o1 o2 t (y := y - 4) (by omega) 9 with ⟨h, _⟩ | h
  · rw [h] at hle
    unfold leE ev0 at hle
    dsimp only at hle
    omega
  · rw [h]
end Go.Proofs.YtgllbagmmpicaaaGreatDoor.Px
namespace Go.Proofs.YtgllbagmmpicaaaGreatDoor.Px
open Go.RowKit
open Civ

theorem retb3 {a b c d : Int} (h : a = b) (k : c = d) : Ending.returned (.tuple #[.int .i64 a, .int .i64 c, .bool true]) = .returned (.tuple #[.int .i64 b, .int .i64 d, .bool true]) := by rw [h, k]
set_option maxHeartbeats 4000000 in
set_option maxRecDepth 100000 in
theorem begins_any (p : Pos) (h1 : p.start.ok = true) (h2 : p.stop.ok = true) (o1 : offB p.stdOff = true) (o2 : offB p.dstOff = true) (y : Int) (h0 : -2000000 ≤ y) (hy : y ≤ 2000000) (w : World) (hE : EnvAt w) :
    Calls Tryz.prog 20 #[p.val, .int .i64 y] w fun e w' => e = .returned (.tuple #[.int .i64 (begI p y), .int .i64 (endI p y), .bool true]) ∧ Below w.heap.size w w' := by
  obtain ⟨v0, v1⟩ : -800000000 ≤ jan y ∧ jan y ≤ 800000000 := by unfold jan; omega
  obtain ⟨u0, u1⟩ := dayD_bd h1 y
  obtain ⟨u2, u3⟩ := dayD_bd h2 y
  rw [offB_iff] at o1 o2
  obtain ⟨s0, s1⟩ := ((Dt.ok_iff _).1 h1).1
  obtain ⟨s2, s3⟩ := ((Dt.ok_iff _).1 h2).1
  obtain ⟨o10, o11⟩ := o1
  obtain ⟨o20, o21⟩ := o2
  have C1 := Lib.hid (fun c w hc hz hB hK => beg_day p.start y h1 (by omega) (by omega) c w hc hz hB hK)
  have C2 := Lib.hid (fun c w hc hz hB hK => beg_day p.stop y h2 (by omega) (by omega) c w hc hz hB hK)
  have HB := Lib.hid (show begI p y = 86400 * dayD p.start y + p.start.sec - p.stdOff from rfl)
  have HD := Lib.hid (show endI p y = 86400 * dayD p.stop y + p.stop.sec - p.dstOff from rfl)
  have HE := Lib.hid hE
  clear hE h1 h2
  obtain ⟨D1, hD1⟩ : ∃ D, dayD p.start y = D := ⟨_, rfl⟩
  obtain ⟨D2, hD2⟩ : ∃ D, dayD p.stop y = D := ⟨_, rfl⟩
  obtain ⟨B, hB⟩ : ∃ D, begI p y = D := ⟨_, rfl⟩
  obtain ⟨E, hEe⟩ : ∃ D, endI p y = D := ⟨_, rfl⟩
  obtain ⟨J, hJ⟩ : ∃ D, jan y = D := ⟨_, rfl⟩
  rw [hD1] at C1 HB u0 u1
  rw [hD2] at C2 HD u2 u3
  rw [hB] at HB ⊢
  rw [hEe] at HD ⊢
  rw [hJ] at v0 v1 u0 u1 u2 u3
  clear hD1 hD2 hB hEe hJ
  obtain ⟨a, b, c, o, ⟨e1, e2, e3, e4, e5⟩, ⟨g1, g2, g3, g4, g5⟩⟩ := p
  unfold Dt.val at C1 C2
  unfold Pos.val
  dsimp only at C1 C2 HB HD s0 s1 s2 s3 o10 o11 o20 o21 ⊢
  have D10 : -90000000000 + J * 0 ≤ D1 := by omega
  have D1a : -900000000 ≤ D1 := by omega
  have D1b : D1 ≤ 900000000 := by omega
  have D2a : -900000000 ≤ D2 := by omega
  have D2b : D2 ≤ 900000000 := by omega
  clear u0 u1 u2 u3 v0 v1 D10
  have K0 := Lib.hid (((Kp.start w).alloc (.cells #[.string a, .int .i64 b, .string c, .int .i64 o, .int .i64 e1, .int .i64 e2, .int .i64 e3, .int .i64 e4, .int .i64 e5, .int .i64 g1, .int .i64 g2, .int .i64 g3, .int .i64 g4, .int .i64 g5] 25)).allocAt (w.heap.size + 1) (by simp) (.cells #[.int .i64 y] 2))
  go_enter Tryz.func20, Tryz.ntmps20
  go_wp2_with fail
  refine (C1.out (w.heap.size + 1) _ (cells_at (K0.out.at 0 rfl) 0) (K0.out.lt 0 rfl) (HE.out.keep K0.out.below).before (HE.out.keep K0.out.below).kinds).mono ?_
  rintro e V ⟨rfl, hb⟩
  have K1 := Lib.hid (K0.out.keep hb)
  clear hb
  obtain ⟨p0, p1, p2, p3, p4, p5, p6, p7, p8, p9, p10, p11, p12, p13⟩ := row14 (K1.out.at 1 rfl)
  go_wp2_with fail
  refine (C2.out (w.heap.size + 1) _ (cells_at (K1.out.at 0 rfl) 0) (K1.out.lt 0 rfl) (HE.out.keep K1.out.below).before (HE.out.keep K1.out.below).kinds).mono ?_
  rintro e V2 ⟨rfl, hb⟩
  have K2 := Lib.hid (K1.out.keep hb)
  clear hb p0 p1 p2 p3 p4 p5 p6 p7 p8 p9 p10 p11 p12 p13
  obtain ⟨p0, p1, p2, p3, p4, p5, p6, p7, p8, p9, p10, p11, p12, p13⟩ := row14 (K2.out.at 1 rfl)
  go_wp2_with fail
  go_quiet (fail)
  go_wp2_with fail
  go_ret3
  exact ⟨retb3 (by rw [HB.out]) (by rw [HD.out]), Civ.below_drewN K2.out.below _⟩

/-- a slice of numbers in memory, that reads as a list -/
def I64V (W : World) (v : Value) (L : List Int) : Prop :=
  ∃ a c, v = .slice a L.length c ∧ L.length ≤ c ∧ c ≤ maxLen ∧ (L = [] ∨ ∃ b, a = some ⟨b, 0, none⟩ ∧ ∀ i, i < L.length → W.cell? ⟨b, i, none⟩ = some (.int .i64 (L.getD i 0)))
theorem getD_lt {α : Type} {l : List α} {i : Nat} {d : α} (h : i < l.length) : l.getD i d = l[i] := by simp [List.getD, h]
theorem I64V.of_own {W : World} {B : Nat} {e : TypeId} {v : Value} {n : Nat} {L : List Int} (h : W.ownsRow B e 1 v n (L.map (Value.int .i64))) : I64V W v L := by
  have hl : n = L.length := by have := h.1; simpa using this.symm
  subst hl
  rcases own_cells h with ⟨h0, hv⟩ | ⟨g, cap, hv, hn, hm, _, hc⟩
  · have : L = [] := List.length_eq_zero_iff.1 h0
    subst this
    exact ⟨none, 0, hv, by simp, by unfold maxLen; omega, .inl rfl⟩
  · refine ⟨some ⟨g, 0, none⟩, cap, hv, hn, hm, .inr ⟨g, rfl, fun i hi => ?_⟩⟩
    refine hc i _ ?_
    rw [List.getElem?_map, List.getElem?_eq_getElem hi, getD_lt hi]
    rfl
theorem take_more {α : Type} {l : List α} {k : Nat} (h : k < l.length) {x : α} (hx : l[k] = x) : l.take (k + 1) = l.take k ++ [x] := by
  subst hx
  rw [List.take_add_one, List.getElem?_eq_getElem h]
  rfl
theorem ret_i {k : IntKind} {a b : Int} (h : a = b) : Ending.returned (.int k a) = .returned (.int k b) := by rw [h]
set_option maxHeartbeats 4000000 in
theorem last_any (t : Int) (L : List Int) (v : Value) (W : World) (h : I64V W v L) :
    Calls Tryz.prog 21 #[v, .int .i64 t] W fun e w' => e = .returned (.int .i64 (lastL t L)) ∧ W = w' := by
  obtain ⟨a, c, rfl, h1, h2, h3⟩ := h
  unfold maxLen at h2
  have H3 := Lib.hid h3
  clear h3
  go_enter Tryz.func21, Tryz.ntmps21
  go_wp2
  go_loop [5, 7, 10] (fun v _ i => ∃ k : Nat, k ≤ L.length ∧ i = .int .i64 k ∧ v = .int .i64 (lastL t (L.take k))) (fun _ _ i => L.length - (intOf i).toNat)
  case atStart => exact ⟨0, by omega, rfl, rfl⟩
  case round =>
    obtain ⟨k, hk, rfl, rfl⟩ := hrel
    by_cases hlt : k < L.length
    · obtain ⟨b, rfl, hc⟩ : ∃ b, a = some ⟨b, 0, none⟩ ∧ W.cell? ⟨b, k, none⟩ = some (.int .i64 L[k]) := by
        rcases H3.out with h | ⟨b, ea, hc⟩
        · rw [h] at hlt; simp at hlt
        · exact ⟨b, ea, by rw [hc k hlt, getD_lt hlt]⟩
      obtain ⟨x, hx⟩ : ∃ x, L[k] = x := ⟨_, rfl⟩
      have HS := Lib.hid (show lastL t (L.take (k + 1)) = maxS t (lastL t (L.take k)) x by rw [take_more hlt hx, lastL_snoc])
      rw [hx] at hc
      clear hx
      obtain ⟨m, hm⟩ : ∃ x, lastL t (L.take k) = x := ⟨_, rfl⟩
      rw [hm] at HS
      rw [hm]
      clear hm
      by_cases hxt : x ≤ t
      · have HM := Lib.hid (show maxS t m x = max m x by unfold maxS; rw [if_pos hxt])
        go_wp2_with fail
        go_round
        case rel => exact ⟨k + 1, by omega, by go_num, by rw [HS.out, HM.out]⟩
        case measure => simp [intOf]; omega
      · have HM := Lib.hid (show maxS t m x = m by unfold maxS; rw [if_neg hxt])
        go_wp2_with fail
        go_round
        case rel => exact ⟨k + 1, by omega, by go_num, by rw [HS.out, HM.out]⟩
        case measure => simp [intOf]; omega
    · obtain rfl : k = L.length := by omega
      rw [List.take_length]
      go_wp2
      go_ret
      exact ⟨rfl, rfl⟩
end Go.Proofs.YtgllbagmmpicaaaGreatDoor.Px
