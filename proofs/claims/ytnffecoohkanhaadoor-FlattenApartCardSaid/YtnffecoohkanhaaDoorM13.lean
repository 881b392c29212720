/- The library's Equal at rules, and at eras, that are alike. The function SameSource of chapter 13's laws, at sources that are alike. -/
import Derived.Test.YtnffecoohkanhaaDoorYFtA
import Derived.Test.YtnffecoohkanhaaDoorM5
import Derived.Laws.EntriesVeiled
namespace Go.Proofs.YtnffecoohkanhaaDoor.Px
open Go.RowKit
open Go.Maps (Keyed)

structure RuQ where
  s0 : ByteArray
  i1 : Int
  i2 : Int
  i3 : Int
  i4 : Int
  i5 : Int
  i6 : Int
  i7 : Int
  i8 : Int
  i9 : Int
  s1 : ByteArray
def ruqC (x : RuQ) : List Value := [.string x.s0, .int .i64 x.i1, .int .i64 x.i2, .int .i64 x.i3, .int .i64 x.i4, .int .i64 x.i5, .int .i64 x.i6, .int .i64 x.i7, .int .i64 x.i8, .int .i64 x.i9, .string x.s1]
theorem ruq_one {l : List RuQ} : ∀ u ∈ l.flatMap ruqC, u.oneCell' = true := by
  intro u hu
  obtain ⟨x, _, hx⟩ := List.mem_flatMap.1 hu
  simp only [ruqC, List.mem_cons, List.not_mem_nil, or_false] at hx
  rcases hx with rfl | rfl | rfl | rfl | rfl | rfl | rfl | rfl | rfl | rfl | rfl <;> rfl
theorem ruq_at (D : List RuQ) {i : Nat} {x : RuQ} (h : D[i]? = some x) (j : Nat) (hj : j < 11) : (D.flatMap ruqC)[i * 11 + j]? = some ((ruqC x).getD j undef) := by
  rw [flat_at ruqC 11 (fun _ => rfl) D i j hj, h]
  show (ruqC x)[j]? = _
  rw [List.getD, List.getElem?_eq_getElem (show j < (ruqC x).length from hj)]
  rfl
set_option maxHeartbeats 8000000 in
set_option maxRecDepth 100000 in
theorem equal_ruq (D : List RuQ) (va vb : Value) (W : World) (hA : SlV W va 11 D.length (D.flatMap ruqC)) (hB : SlV W vb 11 D.length (D.flatMap ruqC)) :
    Calls Tryd.prog 21 #[va, vb] W fun e w' => e = .returned (.bool true) ∧ Below W.heap.size W w' := by
  obtain ⟨a, c, rfl, ha1, ha2⟩ := hA.slA
  obtain ⟨a', c', rfl, hb1, hb2⟩ := hB.slA
  have hAl := fun h0 => hA.allA h0
  have hBl := fun h0 => hB.allA h0
  obtain ⟨n, hn⟩ : ∃ n, D.length = n := ⟨_, rfl⟩
  rw [hn] at hAl hBl ha1 hb1 ⊢
  unfold maxLen at ha2 hb2
  have HA := Lib.hid hAl
  have HB0 := Lib.hid hBl
  have HN := Lib.hid hn
  have mixed : Tryd.prog.follows Departure.mixedOrders = true := by kernel_rfl
  clear hA hB hAl hBl hn
  have hne : (n : Int) = (n : Int) := rfl
  go_enter Tryd.func21, Tryd.ntmps21
  go_wp2_with fail
  clear hne
  go_loopw [5, 13] (fun _ v13 wr => ∃ i : Nat, i ≤ n ∧ v13 = .int .i64 (i : Int) ∧ Below W.heap.size W wr) (fun _ v13 _ => n - (intOf v13).toNat)
  case atStart => exact ⟨0, by omega, rfl, Below.refl _ _⟩
  case round =>
    obtain ⟨i, hi, rfl, hbe⟩ := hrel
    have HB := Lib.hid hbe
    clear hbe
    by_cases hlt : i < n
    · obtain ⟨b, o, c1, e1, _, _, hb, hcell⟩ := HA.out (by omega)
      simp only [Value.slice.injEq] at e1
      obtain ⟨rfl, _, rfl⟩ := e1
      obtain ⟨b', o', c2, e2, _, _, hb', hcell'⟩ := HB0.out (by omega)
      simp only [Value.slice.injEq] at e2
      obtain ⟨rfl, _, rfl⟩ := e2
      obtain ⟨x, hx⟩ : ∃ x, D[i]? = some x := ⟨_, List.getElem?_eq_getElem (by rw [HN.out]; exact hlt)⟩
      have hat := fun j hj => ruq_at D hx j hj
      have k0 := (HB.out.cell (p := ⟨b, o + (i * 11 + 0), none⟩) hb).trans (hcell (i * 11 + 0) _ (hat 0 (by decide)))
      have l0 := (HB.out.cell (p := ⟨b', o' + (i * 11 + 0), none⟩) hb').trans (hcell' (i * 11 + 0) _ (hat 0 (by decide)))
      have k1 := (HB.out.cell (p := ⟨b, o + (i * 11 + 1), none⟩) hb).trans (hcell (i * 11 + 1) _ (hat 1 (by decide)))
      have l1 := (HB.out.cell (p := ⟨b', o' + (i * 11 + 1), none⟩) hb').trans (hcell' (i * 11 + 1) _ (hat 1 (by decide)))
      have k2 := (HB.out.cell (p := ⟨b, o + (i * 11 + 2), none⟩) hb).trans (hcell (i * 11 + 2) _ (hat 2 (by decide)))
      have l2 := (HB.out.cell (p := ⟨b', o' + (i * 11 + 2), none⟩) hb').trans (hcell' (i * 11 + 2) _ (hat 2 (by decide)))
      have k3 := (HB.out.cell (p := ⟨b, o + (i * 11 + 3), none⟩) hb).trans (hcell (i * 11 + 3) _ (hat 3 (by decide)))
      have l3 := (HB.out.cell (p := ⟨b', o' + (i * 11 + 3), none⟩) hb').trans (hcell' (i * 11 + 3) _ (hat 3 (by decide)))
      have k4 := (HB.out.cell (p := ⟨b, o + (i * 11 + 4), none⟩) hb).trans (hcell (i * 11 + 4) _ (hat 4 (by decide)))
      have l4 := (HB.out.cell (p := ⟨b', o' + (i * 11 + 4), none⟩) hb').trans (hcell' (i * 11 + 4) _ (hat 4 (by decide)))
      have k5 := (HB.out.cell (p := ⟨b, o + (i * 11 + 5), none⟩) hb).trans (hcell (i * 11 + 5) _ (hat 5 (by decide)))
      have l5 := (HB.out.cell (p := ⟨b', o' + (i * 11 + 5), none⟩) hb').trans (hcell' (i * 11 + 5) _ (hat 5 (by decide)))
      have k6 := (HB.out.cell (p := ⟨b, o + (i * 11 + 6), none⟩) hb).trans (hcell (i * 11 + 6) _ (hat 6 (by decide)))
      have l6 := (HB.out.cell (p := ⟨b', o' + (i * 11 + 6), none⟩) hb').trans (hcell' (i * 11 + 6) _ (hat 6 (by decide)))
      have k7 := (HB.out.cell (p := ⟨b, o + (i * 11 + 7), none⟩) hb).trans (hcell (i * 11 + 7) _ (hat 7 (by decide)))
      have l7 := (HB.out.cell (p := ⟨b', o' + (i * 11 + 7), none⟩) hb').trans (hcell' (i * 11 + 7) _ (hat 7 (by decide)))
      have k8 := (HB.out.cell (p := ⟨b, o + (i * 11 + 8), none⟩) hb).trans (hcell (i * 11 + 8) _ (hat 8 (by decide)))
      have l8 := (HB.out.cell (p := ⟨b', o' + (i * 11 + 8), none⟩) hb').trans (hcell' (i * 11 + 8) _ (hat 8 (by decide)))
      have k9 := (HB.out.cell (p := ⟨b, o + (i * 11 + 9), none⟩) hb).trans (hcell (i * 11 + 9) _ (hat 9 (by decide)))
      have l9 := (HB.out.cell (p := ⟨b', o' + (i * 11 + 9), none⟩) hb').trans (hcell' (i * 11 + 9) _ (hat 9 (by decide)))
      have k10 := (HB.out.cell (p := ⟨b, o + (i * 11 + 10), none⟩) hb).trans (hcell (i * 11 + 10) _ (hat 10 (by decide)))
      have l10 := (HB.out.cell (p := ⟨b', o' + (i * 11 + 10), none⟩) hb').trans (hcell' (i * 11 + 10) _ (hat 10 (by decide)))
      obtain ⟨ys0, yi1, yi2, yi3, yi4, yi5, yi6, yi7, yi8, yi9, ys1⟩ := x
      simp only [ruqC, List.getD_cons_zero, List.getD_cons_succ, ← Nat.add_assoc, Nat.add_zero] at k0 l0 k1 l1 k2 l2 k3 l3 k4 l4 k5 l5 k6 l6 k7 l7 k8 l8 k9 l9 k10 l10
      clear hcell hcell' hx hat
      go_upto_region 6 with fail
      go_quiet (fail)
      go_wp2_with fail
      go_roundw
      case rel => exact ⟨i + 1, by omega, by go_num, below_drewN HB.out _⟩
      case measure => simp [intOf]; omega
    · obtain rfl : i = n := by omega
      go_wp2_with fail
      exact bodyPost_ret (v := .bool true) (by simp [results, Tryd.results21, go_sem]) rfl ⟨rfl, HB.out⟩
structure ErQ where
  i0 : Int
  i1 : Int
  i2 : Int
  s0 : ByteArray
  s1 : ByteArray
  b0 : Bool
  j0 : Int
  j1 : Int
  j2 : Int
  j3 : Int
  j4 : Int
  j5 : Int
  j6 : Int
def erqC (x : ErQ) : List Value := [.int .i64 x.i0, .int .i64 x.i1, .int .i64 x.i2, .string x.s0, .string x.s1, .bool x.b0, .int .i64 x.j0, .int .i64 x.j1, .int .i64 x.j2, .int .i64 x.j3, .int .i64 x.j4, .int .i64 x.j5, .int .i64 x.j6]
theorem erq_one {l : List ErQ} : ∀ u ∈ l.flatMap erqC, u.oneCell' = true := by
  intro u hu
  obtain ⟨x, _, hx⟩ := List.mem_flatMap.1 hu
  simp only [erqC, List.mem_cons, List.not_mem_nil, or_false] at hx
  rcases hx with rfl | rfl | rfl | rfl | rfl | rfl | rfl | rfl | rfl | rfl | rfl | rfl | rfl <;> rfl
theorem erq_at (D : List ErQ) {i : Nat} {x : ErQ} (h : D[i]? = some x) (j : Nat) (hj : j < 13) : (D.flatMap erqC)[i * 13 + j]? = some ((erqC x).getD j undef) := by
  rw [flat_at erqC 13 (fun _ => rfl) D i j hj, h]
  show (erqC x)[j]? = _
  rw [List.getD, List.getElem?_eq_getElem (show j < (erqC x).length from hj)]
  rfl
set_option maxHeartbeats 8000000 in
set_option maxRecDepth 100000 in
theorem equal_erq (D : List ErQ) (va vb : Value) (W : World) (hA : SlV W va 13 D.length (D.flatMap erqC)) (hB : SlV W vb 13 D.length (D.flatMap erqC)) :
    Calls Tryd.prog 35 #[va, vb] W fun e w' => e = .returned (.bool true) ∧ Below W.heap.size W w' := by
  obtain ⟨a, c, rfl, ha1, ha2⟩ := hA.slA
  obtain ⟨a', c', rfl, hb1, hb2⟩ := hB.slA
  have hAl := fun h0 => hA.allA h0
  have hBl := fun h0 => hB.allA h0
  obtain ⟨n, hn⟩ : ∃ n, D.length = n := ⟨_, rfl⟩
  rw [hn] at hAl hBl ha1 hb1 ⊢
  unfold maxLen at ha2 hb2
  have HA := Lib.hid hAl
  have HB0 := Lib.hid hBl
  have HN := Lib.hid hn
  have mixed : Tryd.prog.follows Departure.mixedOrders = true := by kernel_rfl
  clear hA hB hAl hBl hn
  have hne : (n : Int) = (n : Int) := rfl
  go_enter Tryd.func35, Tryd.ntmps35
  go_wp2_with fail
  clear hne
  go_loopw [5, 13] (fun _ v13 wr => ∃ i : Nat, i ≤ n ∧ v13 = .int .i64 (i : Int) ∧ Below W.heap.size W wr) (fun _ v13 _ => n - (intOf v13).toNat)
  case atStart => exact ⟨0, by omega, rfl, Below.refl _ _⟩
  case round =>
    obtain ⟨i, hi, rfl, hbe⟩ := hrel
    have HB := Lib.hid hbe
    clear hbe
    by_cases hlt : i < n
    · obtain ⟨b, o, c1, e1, _, _, hb, hcell⟩ := HA.out (by omega)
      simp only [Value.slice.injEq] at e1
      obtain ⟨rfl, _, rfl⟩ := e1
      obtain ⟨b', o', c2, e2, _, _, hb', hcell'⟩ := HB0.out (by omega)
      simp only [Value.slice.injEq] at e2
      obtain ⟨rfl, _, rfl⟩ := e2
      obtain ⟨x, hx⟩ : ∃ x, D[i]? = some x := ⟨_, List.getElem?_eq_getElem (by rw [HN.out]; exact hlt)⟩
      have hat := fun j hj => erq_at D hx j hj
      have k0 := (HB.out.cell (p := ⟨b, o + (i * 13 + 0), none⟩) hb).trans (hcell (i * 13 + 0) _ (hat 0 (by decide)))
      have l0 := (HB.out.cell (p := ⟨b', o' + (i * 13 + 0), none⟩) hb').trans (hcell' (i * 13 + 0) _ (hat 0 (by decide)))
      have k1 := (HB.out.cell (p := ⟨b, o + (i * 13 + 1), none⟩) hb).trans (hcell (i * 13 + 1) _ (hat 1 (by decide)))
      have l1 := (HB.out.cell (p := ⟨b', o' + (i * 13 + 1), none⟩) hb').trans (hcell' (i * 13 + 1) _ (hat 1 (by decide)))
      have k2 := (HB.out.cell (p := ⟨b, o + (i * 13 + 2), none⟩) hb).trans (hcell (i * 13 + 2) _ (hat 2 (by decide)))
      have l2 := (HB.out.cell (p := ⟨b', o' + (i * 13 + 2), none⟩) hb').trans (hcell' (i * 13 + 2) _ (hat 2 (by decide)))
      have k3 := (HB.out.cell (p := ⟨b, o + (i * 13 + 3), none⟩) hb).trans (hcell (i * 13 + 3) _ (hat 3 (by decide)))
      have l3 := (HB.out.cell (p := ⟨b', o' + (i * 13 + 3), none⟩) hb').trans (hcell' (i * 13 + 3) _ (hat 3 (by decide)))
      have k4 := (HB.out.cell (p := ⟨b, o + (i * 13 + 4), none⟩) hb).trans (hcell (i * 13 + 4) _ (hat 4 (by decide)))
      have l4 := (HB.out.cell (p := ⟨b', o' + (i * 13 + 4), none⟩) hb').trans (hcell' (i * 13 + 4) _ (hat 4 (by decide)))
      have k5 := (HB.out.cell (p := ⟨b, o + (i * 13 + 5), none⟩) hb).trans (hcell (i * 13 + 5) _ (hat 5 (by decide)))
      have l5 := (HB.out.cell (p := ⟨b', o' + (i * 13 + 5), none⟩) hb').trans (hcell' (i * 13 + 5) _ (hat 5 (by decide)))
      have k6 := (HB.out.cell (p := ⟨b, o + (i * 13 + 6), none⟩) hb).trans (hcell (i * 13 + 6) _ (hat 6 (by decide)))
      have l6 := (HB.out.cell (p := ⟨b', o' + (i * 13 + 6), none⟩) hb').trans (hcell' (i * 13 + 6) _ (hat 6 (by decide)))
      have k7 := (HB.out.cell (p := ⟨b, o + (i * 13 + 7), none⟩) hb).trans (hcell (i * 13 + 7) _ (hat 7 (by decide)))
      have l7 := (HB.out.cell (p := ⟨b', o' + (i * 13 + 7), none⟩) hb').trans (hcell' (i * 13 + 7) _ (hat 7 (by decide)))
      have k8 := (HB.out.cell (p := ⟨b, o + (i * 13 + 8), none⟩) hb).trans (hcell (i * 13 + 8) _ (hat 8 (by decide)))
      have l8 := (HB.out.cell (p := ⟨b', o' + (i * 13 + 8), none⟩) hb').trans (hcell' (i * 13 + 8) _ (hat 8 (by decide)))
      have k9 := (HB.out.cell (p := ⟨b, o + (i * 13 + 9), none⟩) hb).trans (hcell (i * 13 + 9) _ (hat 9 (by decide)))
      have l9 := (HB.out.cell (p := ⟨b', o' + (i * 13 + 9), none⟩) hb').trans (hcell' (i * 13 + 9) _ (hat 9 (by decide)))
      have k10 := (HB.out.cell (p := ⟨b, o + (i * 13 + 10), none⟩) hb).trans (hcell (i * 13 + 10) _ (hat 10 (by decide)))
      have l10 := (HB.out.cell (p := ⟨b', o' + (i * 13 + 10), none⟩) hb').trans (hcell' (i * 13 + 10) _ (hat 10 (by decide)))
      have k11 := (HB.out.cell (p := ⟨b, o + (i * 13 + 11), none⟩) hb).trans (hcell (i * 13 + 11) _ (hat 11 (by decide)))
      have l11 := (HB.out.cell (p := ⟨b', o' + (i * 13 + 11), none⟩) hb').trans (hcell' (i * 13 + 11) _ (hat 11 (by decide)))
      have k12 := (HB.out.cell (p := ⟨b, o + (i * 13 + 12), none⟩) hb).trans (hcell (i * 13 + 12) _ (hat 12 (by decide)))
      have l12 := (HB.out.cell (p := ⟨b', o' + (i * 13 + 12), none⟩) hb').trans (hcell' (i * 13 + 12) _ (hat 12 (by decide)))
      obtain ⟨yi0, yi1, yi2, ys0, ys1, yb0, yj0, yj1, yj2, yj3, yj4, yj5, yj6⟩ := x
      simp only [erqC, List.getD_cons_zero, List.getD_cons_succ, ← Nat.add_assoc, Nat.add_zero] at k0 l0 k1 l1 k2 l2 k3 l3 k4 l4 k5 l5 k6 l6 k7 l7 k8 l8 k9 l9 k10 l10 k11 l11 k12 l12
      clear hcell hcell' hx hat
      go_upto_region 6 with fail
      go_quiet (fail)
      go_wp2_with fail
      go_roundw
      case rel => exact ⟨i + 1, by omega, by go_num, below_drewN HB.out _⟩
      case measure => simp [intOf]; omega
    · obtain rfl : i = n := by omega
      go_wp2_with fail
      exact bodyPost_ret (v := .bool true) (by simp [results, Tryd.results35, go_sem]) rfl ⟨rfl, HB.out⟩
end Go.Proofs.YtnffecoohkanhaaDoor.Px
namespace Go.Proofs.YtnffecoohkanhaaDoor.Px
open Go.RowKit
open Go.Maps (Keyed)
open Lk

/-- two zones in memory that are alike -/
def ZAlike (W : World) (p q : Zo) : Prop := p.1 = q.1 ∧ ∃ E : List ErQ, p.2.2.1 = E.length ∧ q.2.2.1 = E.length ∧ SlV W (.slice p.2.1 E.length p.2.2.2) 13 E.length (E.flatMap erqC) ∧ SlV W (.slice q.2.1 E.length q.2.2.2) 13 E.length (E.flatMap erqC)
set_option maxHeartbeats 4000000 in
set_option maxRecDepth 100000 in
theorem zone_same (s : ByteArray) (a a' : Option Addr) (c c' : Nat) (E : List ErQ) (W : World) (h1 : SlV W (.slice a E.length c) 13 E.length (E.flatMap erqC)) (h2 : SlV W (.slice a' E.length c') 13 E.length (E.flatMap erqC)) :
    Calls Tryd.prog 34 #[.agg #[.string s, .slice a E.length c], .agg #[.string s, .slice a' E.length c']] W fun e w' => e = .returned (.bool true) ∧ Below W.heap.size W w' := by
  have CE := Lib.hid (fun (Y : World) (hB : Below W.heap.size W Y) => equal_erq E _ _ Y (h1.keep hB) (h2.keep hB))
  obtain ⟨n, hn⟩ : ∃ n, E.length = n := ⟨_, rfl⟩
  rw [hn] at CE ⊢
  have hq : (s.toList == s.toList) = true := by simp
  have K0 := Lib.hid (((Kp.start W).allocAt W.heap.size rfl (.cells #[.string s, .slice a n c] 40)).allocAt (W.heap.size + 1) (by simp) (.cells #[.string s, .slice a' n c'] 40))
  obtain ⟨x0, x1⟩ := row2 (K0.out.at 1 rfl)
  obtain ⟨y0, y1⟩ := row2 (K0.out.at 0 rfl)
  clear h1 h2 hn
  go_enter Tryd.func34, Tryd.ntmps34
  go_wp2_with (first | (go_at_call 35; refine (CE.out _ K0.out.below).mono ?_; rintro e X ⟨rfl, hb⟩; have K1 := Lib.hid (K0.out.keep hb); clear hb))
  exact bodyPost_ret (v := .bool true) (by simp [results, Tryd.results34, go_sem]) rfl ⟨rfl, K1.out.below⟩
set_option maxHeartbeats 8000000 in
set_option maxRecDepth 100000 in
theorem equalFunc_zones (A B : List Zo) (va vb : Value) (W : World) (hA : ZoV W va A) (hB : ZoV W vb B) (hlen : A.length = B.length) (hq : ∀ (i : Nat) (p q : Zo), A[i]? = some p → B[i]? = some q → ZAlike W p q) :
    Calls Tryd.prog 33 #[va, vb, .func (.func 34) #[] #[]] W fun e w' => e = .returned (.bool true) ∧ Below W.heap.size W w' := by
  have hent : ∀ args w, (callFunc 34 args).run Tryd.prog w = .ok (.enter 34 args) w := enters_of Tryd.func34 (by kernel_rfl) rfl
  obtain ⟨a, c, rfl, ha1, ha2⟩ := SlV.slA hA
  obtain ⟨a', c', rfl, hb1, hb2⟩ := SlV.slA hB
  have hAl := fun h0 => SlV.allA hA h0
  have hBl := fun h0 => SlV.allA hB h0
  obtain ⟨n, hn⟩ : ∃ n, A.length = n := ⟨_, rfl⟩
  rw [hn] at hlen
  rw [hn] at hAl ha1 ⊢
  rw [← hlen] at hBl hb1 ⊢
  unfold maxLen at ha2 hb2
  have HA := Lib.hid hAl
  have HB0 := Lib.hid hBl
  have HN := Lib.hid hn
  have HM := Lib.hid hlen
  have HQ := Lib.hid hq
  clear hA hB hAl hBl hn hlen hq
  have hne : (n : Int) = (n : Int) := rfl
  go_enter Tryd.func33, Tryd.ntmps33
  go_wp2_with fail
  clear hne
  go_loopw [7, 8, 9, 17] (fun _ _ _ v17 wr => ∃ i : Nat, i ≤ n ∧ v17 = .int .i64 (i : Int) ∧ Below W.heap.size W wr) (fun _ _ _ v17 _ => n - (intOf v17).toNat)
  case atStart => exact ⟨0, by omega, rfl, Below.refl _ _⟩
  case round =>
    obtain ⟨i, hi, rfl, hbe⟩ := hrel
    have HB := Lib.hid hbe
    clear hbe
    by_cases hlt : i < n
    · obtain ⟨b, o, c1, e1, _, _, hb, hcell⟩ := HA.out (by omega)
      simp only [Value.slice.injEq] at e1
      obtain ⟨rfl, _, rfl⟩ := e1
      obtain ⟨b', o', c2, e2, _, _, hb', hcell'⟩ := HB0.out (by omega)
      simp only [Value.slice.injEq] at e2
      obtain ⟨rfl, _, rfl⟩ := e2
      obtain ⟨p, hp⟩ : ∃ x, A[i]? = some x := ⟨_, List.getElem?_eq_getElem (by rw [HN.out]; exact hlt)⟩
      obtain ⟨q, hq⟩ : ∃ x, B[i]? = some x := ⟨_, List.getElem?_eq_getElem (by rw [← HM.out]; exact hlt)⟩
      have hal := HQ.out i p q hp hq
      have k0 := (HB.out.cell (p := ⟨b, o + i * 2, none⟩) hb).trans (hcell (i * 2) _ (zo_at A hp).1)
      have k1 := (HB.out.cell (p := ⟨b, o + (i * 2 + 1), none⟩) hb).trans (hcell (i * 2 + 1) _ (zo_at A hp).2)
      have l0 := (HB.out.cell (p := ⟨b', o' + i * 2, none⟩) hb').trans (hcell' (i * 2) _ (zo_at B hq).1)
      have l1 := (HB.out.cell (p := ⟨b', o' + (i * 2 + 1), none⟩) hb').trans (hcell' (i * 2 + 1) _ (zo_at B hq).2)
      rw [← Nat.add_assoc] at k1 l1
      obtain ⟨pn, pa, pm, pc⟩ := p
      obtain ⟨qn, qa, qm, qc⟩ := q
      obtain ⟨e0, E, e1, e2, h1, h2⟩ := hal
      dsimp only at e0 e1 e2 h1 h2 k0 k1 l0 l1
      subst e0 e1 e2
      obtain ⟨s, hs⟩ : ∃ s, bs pn = s := ⟨_, rfl⟩
      rw [hs] at k0 l0
      have CZ := Lib.hid (fun (Y : World) (hB : Below W.heap.size W Y) => zone_same s pa qa pc qc E Y (h1.keep hB) (h2.keep hB))
      obtain ⟨m, hm⟩ : ∃ m, E.length = m := ⟨_, rfl⟩
      rw [hm] at CZ k1 l1
      have KE := Lib.hid (((Kp.start W).keep HB.out).allocAt wr.heap.size rfl (.cells #[.string s, .slice pa m pc] 40))
      have KE2 := Lib.hid (KE.out.allocAt (wr.heap.size + 1) (by simp) (.cells #[.string s, .slice qa m qc] 40))
      have hbw : b < wr.heap.size := Nat.lt_of_lt_of_le hb HB.out.size
      have hbw' : b' < wr.heap.size := Nat.lt_of_lt_of_le hb' HB.out.size
      clear hs hm h1 h2 hp hq hcell hcell'
      go_wp2_with (first | (go_at_call 34; refine (CZ.out _ KE2.out.below).mono ?_; rintro e X ⟨rfl, hb3⟩; have K3 := Lib.hid (KE2.out.keep hb3); clear hb3))
      go_roundw
      case rel => exact ⟨i + 1, by omega, by go_num, K3.out.below⟩
      case measure => simp [intOf]; omega
    · obtain rfl : i = n := by omega
      go_wp2_with fail
      exact bodyPost_ret (v := .bool true) (by simp [results, Tryd.results33, go_sem]) rfl ⟨rfl, HB.out⟩
set_option maxHeartbeats 8000000 in
set_option maxRecDepth 100000 in
theorem same_any (ra za la sa rb zb lb sb : Value) (D : List RuQ) (A B : List Zo) (Ls : List (List UInt8 × List UInt8)) (Sh : List (List UInt8)) (W : World)
    (h1 : SlV W ra 11 D.length (D.flatMap ruqC)) (h2 : SlV W rb 11 D.length (D.flatMap ruqC)) (h3 : ZoV W za A) (h4 : ZoV W zb B) (hlen : A.length = B.length) (hq : ∀ (i : Nat) (p q : Zo), A[i]? = some p → B[i]? = some q → ZAlike W p q)
    (h5 : LkV W la Ls) (h6 : LkV W lb Ls) (h7 : SlV W sa 1 Sh.length (Sh.map svv)) (h8 : SlV W sb 1 Sh.length (Sh.map svv)) :
    Calls Tryd.prog 16 #[.agg #[ra, za, la, sa], .agg #[rb, zb, lb, sb]] W fun e w' => e = .returned (.bool true) ∧ Below W.heap.size W w' := by
  have C1 := Lib.hid (fun (Y : World) (hB : Below W.heap.size W Y) => equal_ruq D ra rb Y (h1.keep hB) (h2.keep hB))
  have C2 := Lib.hid (fun (Y : World) (hB : Below W.heap.size W Y) => equalFunc_zones A B za zb Y (h3.keep hB) (h4.keep hB) hlen (fun i p q hp hq' => by
    obtain ⟨e, E, e1, e2, g1, g2⟩ := hq i p q hp hq'
    exact ⟨e, E, e1, e2, g1.keep hB, g2.keep hB⟩))
  have C3 := Lib.hid (fun (Y : World) (hB : Below W.heap.size W Y) => (show Calls Tryd.prog 36 #[la, lb] Y fun e w' => e = .returned (.bool true) ∧ Below Y.heap.size Y w' by
    have h := equal_links Ls Ls la lb Y (h5.keep hB) (h6.keep hB)
    rw [decide_eq_true rfl] at h
    exact h))
  have C4 := Lib.hid (fun (Y : World) (hB : Below W.heap.size W Y) => (show Calls Tryd.prog 37 #[sa, sb] Y fun e w' => e = .returned (.bool true) ∧ Below Y.heap.size Y w' by
    have h := equal_strs Sh Sh sa sb Y (h7.keep hB) (h8.keep hB)
    rw [decide_eq_true rfl] at h
    exact h))
  obtain ⟨ra0, ra1, rfl, _, _⟩ := h1.slA
  obtain ⟨rb0, rb1, rfl, _, _⟩ := h2.slA
  obtain ⟨za0, za1, rfl, _, _⟩ := SlV.slA h3
  obtain ⟨zb0, zb1, rfl, _, _⟩ := SlV.slA h4
  obtain ⟨la0, la1, rfl, _, _⟩ := SlV.slA h5
  obtain ⟨lb0, lb1, rfl, _, _⟩ := SlV.slA h6
  obtain ⟨sa0, sa1, rfl, _, _⟩ := h7.slA
  obtain ⟨sb0, sb1, rfl, _, _⟩ := h8.slA
  obtain ⟨n1, e1⟩ : ∃ n, D.length = n := ⟨_, rfl⟩
  obtain ⟨n2, e2⟩ : ∃ n, A.length = n := ⟨_, rfl⟩
  obtain ⟨n3, e3⟩ : ∃ n, Ls.length = n := ⟨_, rfl⟩
  obtain ⟨n4, e4⟩ : ∃ n, Sh.length = n := ⟨_, rfl⟩
  rw [e2] at hlen
  rw [e1] at C1 ⊢
  rw [← hlen] at C2 ⊢
  rw [e2] at C2 ⊢
  rw [e3] at C3 ⊢
  rw [e4] at C4 ⊢
  have K0 := Lib.hid (((Kp.start W).allocAt W.heap.size rfl (.cells #[.slice ra0 n1 ra1, .slice za0 n2 za1, .slice la0 n3 la1, .slice sa0 n4 sa1] 27)).allocAt (W.heap.size + 1) (by simp) (.cells #[.slice rb0 n1 rb1, .slice zb0 n2 zb1, .slice lb0 n3 lb1, .slice sb0 n4 sb1] 27))
  obtain ⟨x0, x1, x2, x3⟩ := row4 (K0.out.at 1 rfl)
  obtain ⟨y0, y1, y2, y3⟩ := row4 (K0.out.at 0 rfl)
  clear h1 h2 h3 h4 h5 h6 h7 h8 hq hlen e1 e2 e3 e4
  go_enter Tryd.func16, Tryd.ntmps16
  go_wp2_with (first
    | (go_at_call 21; refine (C1.out _ K0.out.below).mono ?_; rintro e X1 ⟨rfl, hb⟩; have K1 := Lib.hid (K0.out.keep hb); obtain ⟨x0, x1, x2, x3⟩ := row4 (K1.out.at 1 rfl); obtain ⟨y0, y1, y2, y3⟩ := row4 (K1.out.at 0 rfl); clear hb)
    | (go_at_call 33; refine (C2.out _ K1.out.below).mono ?_; rintro e X2 ⟨rfl, hb⟩; have K2 := Lib.hid (K1.out.keep hb); obtain ⟨x0, x1, x2, x3⟩ := row4 (K2.out.at 1 rfl); obtain ⟨y0, y1, y2, y3⟩ := row4 (K2.out.at 0 rfl); clear hb)
    | (go_at_call 36; refine (C3.out _ K2.out.below).mono ?_; rintro e X3 ⟨rfl, hb⟩; have K3 := Lib.hid (K2.out.keep hb); obtain ⟨x0, x1, x2, x3⟩ := row4 (K3.out.at 1 rfl); obtain ⟨y0, y1, y2, y3⟩ := row4 (K3.out.at 0 rfl); clear hb)
    | (go_at_call 37; refine (C4.out _ K3.out.below).mono ?_; rintro e X4 ⟨rfl, hb⟩; have K4 := Lib.hid (K3.out.keep hb); clear hb))
  exact bodyPost_ret (v := .bool true) (by simp [results, Tryd.results16, go_sem]) rfl ⟨rfl, K4.out.below⟩
end Go.Proofs.YtnffecoohkanhaaDoor.Px
