/- Strings as values. The library's Equal at strings and at links. -/
import Derived.Test.YtnffecoohkanhaaDoorYLnG
import Derived.Test.YtnffecoohkanhaaDoorYLnR
namespace Go.Proofs.YtnffecoohkanhaaDoor.Px
def svv (x : List UInt8) : Value := .string (bs x)
theorem info_partsU {t : TypeId} {z : Value} {m b : Nat} (h : (Tryd.prog.info? t).map (fun i => (i.zero, i.size, i.bytes)) = some (some z, m, b)) : ∃ i, Tryd.prog.info? t = some i ∧ i.zero = some z ∧ i.size = m ∧ i.bytes = b := by
  cases e : Tryd.prog.info? t with
  | none => rw [e] at h; cases h
  | some i =>
    rw [e] at h
    simp only [Option.map_some, Option.some.injEq, Prod.mk.injEq] at h
    exact ⟨i, rfl, h.1, h.2.1, h.2.2⟩
end Go.Proofs.YtnffecoohkanhaaDoor.Px
namespace Go.Proofs.YtnffecoohkanhaaDoor.Px
open Go.RowKit
open Go.Maps (Keyed)
open Lk

theorem take_eq_step {α : Type} {A B : List α} {i : Nat} {x y : α} (h : A.take i = B.take i) (hx : A[i]? = some x) (hy : B[i]? = some y) : A.take (i + 1) = B.take (i + 1) ↔ x = y := by
  rw [List.take_add_one, List.take_add_one, hx, hy, h]
  simp
theorem take_ne {α : Type} {A B : List α} {i : Nat} {x y : α} (hx : A[i]? = some x) (hy : B[i]? = some y) (h : x ≠ y) : A ≠ B := by
  intro e
  rw [e, hy] at hx
  exact h (Option.some.inj hx).symm
set_option maxHeartbeats 4000000 in
set_option maxRecDepth 100000 in
theorem equal_strs (A B : List (List UInt8)) (va vb : Value) (W : World) (hA : SlV W va 1 A.length (A.map svv)) (hB : SlV W vb 1 B.length (B.map svv)) :
    Calls Tryd.prog 37 #[va, vb] W fun e w' => e = .returned (.bool (decide (A = B))) ∧ Below W.heap.size W w' := by
  obtain ⟨a, c, rfl, ha1, ha2⟩ := hA.slA
  obtain ⟨a', c', rfl, hb1, hb2⟩ := hB.slA
  have hAl := fun h0 => hA.allA h0
  have hBl := fun h0 => hB.allA h0
  obtain ⟨n, hn⟩ : ∃ n, A.length = n := ⟨_, rfl⟩
  obtain ⟨m, hm⟩ : ∃ m, B.length = m := ⟨_, rfl⟩
  rw [hn] at hAl ha1 ⊢
  rw [hm] at hBl hb1 ⊢
  unfold maxLen at ha2 hb2
  have HA := Lib.hid hAl
  have HB := Lib.hid hBl
  have HN := Lib.hid hn
  have HM := Lib.hid hm
  clear hA hB hAl hBl hn hm
  by_cases hnm : n = m
  case neg =>
    have hne : ¬ (n : Int) = (m : Int) := by omega
    have hd := Lib.hid (show decide (A = B) = false from decide_eq_false (fun e => hnm (by rw [← HN.out, ← HM.out, e])))
    clear hnm
    go_enter Tryd.func37, Tryd.ntmps37
    go_wp2_with fail
    refine bodyPost_ret (v := .bool false) (by simp [results, Tryd.results37, go_sem]) rfl ⟨?_, Below.refl _ _⟩
    rw [hd.out]
  subst hnm
  have hne : (n : Int) = (n : Int) := rfl
  go_enter Tryd.func37, Tryd.ntmps37
  go_wp2_with fail
  clear hne
  go_loopw [5, 13] (fun _ v13 wr => ∃ i : Nat, i ≤ n ∧ v13 = .int .i64 (i : Int) ∧ A.take i = B.take i ∧ Below W.heap.size W wr) (fun _ v13 _ => n - (intOf v13).toNat)
  case atStart => exact ⟨0, by omega, rfl, by simp, Below.refl _ _⟩
  case round =>
    obtain ⟨i, hi, rfl, htk, hbe⟩ := hrel
    have HT := Lib.hid htk
    have HBe := Lib.hid hbe
    clear htk hbe
    by_cases hlt : i < n
    · obtain ⟨b, o, c1, e1, _, _, hb, hcell⟩ := HA.out (by omega)
      simp only [Value.slice.injEq] at e1
      obtain ⟨rfl, _, rfl⟩ := e1
      obtain ⟨b', o', c2, e2, _, _, hb', hcell'⟩ := HB.out (by omega)
      simp only [Value.slice.injEq] at e2
      obtain ⟨rfl, _, rfl⟩ := e2
      obtain ⟨x, hx⟩ : ∃ x, A[i]? = some x := ⟨_, List.getElem?_eq_getElem (by rw [HN.out]; exact hlt)⟩
      obtain ⟨y, hy⟩ : ∃ y, B[i]? = some y := ⟨_, List.getElem?_eq_getElem (by rw [HM.out]; exact hlt)⟩
      have hst := Lib.hid (take_eq_step HT.out hx hy)
      have hno := Lib.hid (fun h : x ≠ y => take_ne hx hy h)
      have hbw : b < wr.heap.size := Nat.lt_of_lt_of_le hb HBe.out.size
      have hbw' : b' < wr.heap.size := Nat.lt_of_lt_of_le hb' HBe.out.size
      have k0 := (HBe.out.cell (p := ⟨b, o + i, none⟩) hb).trans (hcell i (.string (bs x)) (by rw [List.getElem?_map, hx]; rfl))
      have l0 := (HBe.out.cell (p := ⟨b', o' + i, none⟩) hb').trans (hcell' i (.string (bs y)) (by rw [List.getElem?_map, hy]; rfl))
      clear hcell hcell' hx hy
      by_cases he : x = y
      · subst he
        have ht := Lib.hid (hst.out.2 rfl)
        obtain ⟨sx, hsx⟩ : ∃ s, bs x = s := ⟨_, rfl⟩
        rw [hsx] at k0 l0
        clear hsx
        go_upto_region 6 with fail
        go_quiet (fail)
        go_wp2_with fail
        go_roundw
        case rel => exact ⟨i + 1, by omega, by go_num, ht.out, below_drewN HBe.out _⟩
        case measure => simp [intOf]; omega
      · have hd := Lib.hid (show decide (A = B) = false from decide_eq_false (hno.out he))
        have hq : ((bs x).toList == (bs y).toList) = false := by
          rw [beq_eq_false_iff_ne]
          exact fun e => he (bs_inj (ba_eq e))
        obtain ⟨sx, hsx⟩ : ∃ s, bs x = s := ⟨_, rfl⟩
        obtain ⟨sy, hsy⟩ : ∃ s, bs y = s := ⟨_, rfl⟩
        rw [hsx] at k0 hq
        rw [hsy] at l0 hq
        clear hsx hsy he
        go_upto_region 6 with fail
        go_quiet (fail)
        go_wp2_with fail
        refine bodyPost_ret (v := .bool false) (by simp [results, Tryd.results37, go_sem]) rfl ⟨?_, below_drewN HBe.out _⟩
        rw [hd.out]
    · obtain rfl : i = n := by omega
      have hd := Lib.hid (show decide (A = B) = true from decide_eq_true (by
        have := HT.out
        rwa [List.take_of_length_le (by rw [HN.out]; exact Nat.le_refl _), List.take_of_length_le (by rw [HM.out]; exact Nat.le_refl _)] at this))
      go_wp2_with fail
      refine bodyPost_ret (v := .bool true) (by simp [results, Tryd.results37, go_sem]) rfl ⟨?_, HBe.out⟩
      rw [hd.out]
/-- two links that are not equal, by '!=' -/
theorem link_ne2 {y l : List UInt8 × List UInt8} (h : y ≠ l) : ∀ X : World, (if (bs y.2).toList = (bs l.2).toList then (if (bs y.1).toList = (bs l.1).toList then Result.ok (Next.value (Value.bool false)) X else Result.ok (Next.value (Value.bool true)) X) else Result.ok (Next.value (Value.bool true)) X) = Result.ok (Next.value (Value.bool true)) X := by
  intro X
  by_cases h1 : (bs y.2).toList = (bs l.2).toList
  case neg => rw [if_neg h1]
  rw [if_pos h1]
  by_cases h3 : (bs y.1).toList = (bs l.1).toList
  case neg => rw [if_neg h3]
  exfalso
  exact h (Prod.ext (bs_inj (ba_eq h3)) (bs_inj (ba_eq h1)))
theorem equal_links (A B : List (List UInt8 × List UInt8)) (va vb : Value) (W : World) (hA : LkV W va A) (hB : LkV W vb B) :
    Calls Tryd.prog 36 #[va, vb] W fun e w' => e = .returned (.bool (decide (A = B))) ∧ Below W.heap.size W w' := by
  obtain ⟨a, c, rfl, ha1, ha2⟩ := hA.slA
  obtain ⟨a', c', rfl, hb1, hb2⟩ := hB.slA
  have hAl := fun h0 => hA.allA h0
  have hBl := fun h0 => hB.allA h0
  obtain ⟨n, hn⟩ : ∃ n, A.length = n := ⟨_, rfl⟩
  obtain ⟨m, hm⟩ : ∃ m, B.length = m := ⟨_, rfl⟩
  rw [hn] at hAl ha1 ⊢
  rw [hm] at hBl hb1 ⊢
  unfold maxLen at ha2 hb2
  have HA := Lib.hid hAl
  have HB := Lib.hid hBl
  have HN := Lib.hid hn
  have HM := Lib.hid hm
  clear hA hB hAl hBl hn hm
  by_cases hnm : n = m
  case neg =>
    have hne : ¬ (n : Int) = (m : Int) := by omega
    have hd := Lib.hid (show decide (A = B) = false from decide_eq_false (fun e => hnm (by rw [← HN.out, ← HM.out, e])))
    clear hnm
    go_enter Tryd.func36, Tryd.ntmps36
    go_wp2_with fail
    refine bodyPost_ret (v := .bool false) (by simp [results, Tryd.results36, go_sem]) rfl ⟨?_, Below.refl _ _⟩
    rw [hd.out]
  subst hnm
  have hne : (n : Int) = (n : Int) := rfl
  go_enter Tryd.func36, Tryd.ntmps36
  go_wp2_with fail
  clear hne
  go_loopw [5, 13] (fun _ v13 wr => ∃ i : Nat, i ≤ n ∧ v13 = .int .i64 (i : Int) ∧ A.take i = B.take i ∧ Below W.heap.size W wr) (fun _ v13 _ => n - (intOf v13).toNat)
  case atStart => exact ⟨0, by omega, rfl, by simp, Below.refl _ _⟩
  case round =>
    obtain ⟨i, hi, rfl, htk, hbe⟩ := hrel
    have HT := Lib.hid htk
    have HBe := Lib.hid hbe
    clear htk hbe
    by_cases hlt : i < n
    · obtain ⟨b, o, c1, e1, _, _, hb, hcell⟩ := HA.out (by omega)
      simp only [Value.slice.injEq] at e1
      obtain ⟨rfl, _, rfl⟩ := e1
      obtain ⟨b', o', c2, e2, _, _, hb', hcell'⟩ := HB.out (by omega)
      simp only [Value.slice.injEq] at e2
      obtain ⟨rfl, _, rfl⟩ := e2
      obtain ⟨x, hx⟩ : ∃ x, A[i]? = some x := ⟨_, List.getElem?_eq_getElem (by rw [HN.out]; exact hlt)⟩
      obtain ⟨y, hy⟩ : ∃ y, B[i]? = some y := ⟨_, List.getElem?_eq_getElem (by rw [HM.out]; exact hlt)⟩
      have hst := Lib.hid (take_eq_step HT.out hx hy)
      have hno := Lib.hid (fun h : x ≠ y => take_ne hx hy h)
      have hbw : b < wr.heap.size := Nat.lt_of_lt_of_le hb HBe.out.size
      have hbw' : b' < wr.heap.size := Nat.lt_of_lt_of_le hb' HBe.out.size
      obtain ⟨q0, q1⟩ := lk_at A hx
      obtain ⟨r0, r1⟩ := lk_at B hy
      have k0 := (HBe.out.cell (p := ⟨b, o + i * 2, none⟩) hb).trans (hcell _ _ q0)
      have k1 := (HBe.out.cell (p := ⟨b, o + i * 2 + 1, none⟩) hb).trans (hcell _ _ q1)
      have l0 := (HBe.out.cell (p := ⟨b', o' + i * 2, none⟩) hb').trans (hcell' _ _ r0)
      have l1 := (HBe.out.cell (p := ⟨b', o' + i * 2 + 1, none⟩) hb').trans (hcell' _ _ r1)
      clear hcell hcell' hx hy q0 q1 r0 r1
      by_cases he : x = y
      · subst he
        have ht := Lib.hid (hst.out.2 rfl)
        obtain ⟨xn, xt⟩ := x
        dsimp only at k0 k1 l0 l1
        obtain ⟨s1, hs1⟩ : ∃ s, bs xn = s := ⟨_, rfl⟩
        obtain ⟨s2, hs2⟩ : ∃ s, bs xt = s := ⟨_, rfl⟩
        rw [hs1] at k1 l1
        rw [hs2] at k0 l0
        clear hs1 hs2
        go_upto_region 6 with fail
        go_quiet (fail)
        go_wp2_with fail
        go_roundw
        case rel => exact ⟨i + 1, by omega, by go_num, ht.out, below_drewN HBe.out _⟩
        case measure => simp [intOf]; omega
      · have hd := Lib.hid (show decide (A = B) = false from decide_eq_false (hno.out he))
        have hq := link_ne2 he
        obtain ⟨xn, xt⟩ := x
        obtain ⟨yn, yt⟩ := y
        dsimp only at k0 k1 l0 l1 hq
        obtain ⟨s1, hs1⟩ : ∃ s, bs xn = s := ⟨_, rfl⟩
        obtain ⟨s2, hs2⟩ : ∃ s, bs xt = s := ⟨_, rfl⟩
        obtain ⟨u1, hu1⟩ : ∃ s, bs yn = s := ⟨_, rfl⟩
        obtain ⟨u2, hu2⟩ : ∃ s, bs yt = s := ⟨_, rfl⟩
        rw [hs1] at k1 hq
        rw [hs2] at k0 hq
        rw [hu1] at l1 hq
        rw [hu2] at l0 hq
        clear he hs1 hs2 hu1 hu2
        go_upto_region 6 with fail
        go_quiet (fail)
        go_wp2_with fail
        refine bodyPost_ret (v := .bool false) (by simp [results, Tryd.results36, go_sem]) rfl ⟨?_, below_drewN HBe.out _⟩
        rw [hd.out]
    · obtain rfl : i = n := by omega
      have hd := Lib.hid (show decide (A = B) = true from decide_eq_true (by
        have := HT.out
        rwa [List.take_of_length_le (by rw [HN.out]; exact Nat.le_refl _), List.take_of_length_le (by rw [HM.out]; exact Nat.le_refl _)] at this))
      go_wp2_with fail
      refine bodyPost_ret (v := .bool true) (by simp [results, Tryd.results36, go_sem]) rfl ⟨?_, HBe.out⟩
      rw [hd.out]
end Go.Proofs.YtnffecoohkanhaaDoor.Px
