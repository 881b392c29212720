/- The library's stable sort at strings: merging where one of the two rows has one string. -/
import Derived.Test.YtkfgonbopgdmgaaDoorSoC
namespace Go.Proofs.YtkfgonbopgdmgaaDoor.Px
open Go.RowKit
open St Po

theorem take_le {B : List (List UInt8)} {x : List UInt8} {c i : Nat} {y : List UInt8} (hB : B.Pairwise (fun x y => rk x ≤ rk y)) (hc : B[c]? = some y) (hy : rk y < rk x) (hi : i = c + 1) : ∀ z ∈ B.take i, rk z < rk x := by
  subst hi
  intro z hz
  have := le_take hB (s := c + 1) (by omega) (by simpa using hc) z hz
  omega
theorem drop_le {B : List (List UInt8)} {x : List UInt8} {c i : Nat} {y : List UInt8} (hB : B.Pairwise (fun x y => rk x ≤ rk y)) (hc : B[c]? = some y) (hy : rk x ≤ rk y) (hi : i = c) : ∀ z ∈ B.drop i, rk x ≤ rk z := by
  subst hi
  intro z hz
  have := le_drop hB hc z hz
  omega
set_option maxHeartbeats 16000000 in
set_option maxRecDepth 100000 in
theorem symFirst_any (P B Q : List (List UInt8)) (x : List UInt8) (g n cap a m b : Nat) (L : List (Nat × Obj)) (R : List Rw) (W w : World) (h : Kp L (rowS g n cap (P ++ [x] ++ B ++ Q) :: R) W w)
    (ha : P.length = a) (hm : a + 1 = m) (hb : m + B.length = b) (hs : B.Pairwise (fun x y => rk x ≤ rk y)) (hn : (P ++ [x] ++ B ++ Q).length = n) (hb' : n ≤ 1000000000) :
    Calls Tryd.prog 90 #[.slice (some ⟨g, 0, none⟩) n cap, .int .i64 (a : Int), .int .i64 (m : Int), .int .i64 (b : Int), cmpV] w fun e w' => e = .returned (.tuple #[]) ∧ ∃ C, Stb rk ([x] ++ B) C ∧ Kp L (rowS g n cap (P ++ C ++ Q) :: R) W w' := by
  have HK := Lib.hid h
  have hl : a + 1 + B.length + Q.length = n := by rw [← hn]; simp only [List.length_append, List.length_singleton]; omega
  have mixed : Tryd.prog.follows Departure.mixedOrders = true := by kernel_rfl
  have CC := Lib.hid (fun x y w => cmp_any x y w)
  unfold cmpV
  have w0 : IntKind.i64.wrap ((m : Int) - (a : Int)) = 1 := by rw [IntWalk.i64_in _ (by omega)]; omega
  have hbn : b ≤ n := by omega
  have hmb : m ≤ b := by omega
  have HL := Lib.hid (And.intro ha (And.intro hm (And.intro hb hl)))
  have HS := Lib.hid hs
  have hax : P.length = a := ha
  have hcx : ((P ++ [x] ++ B ++ Q).map sv)[a]? = some (sv x) := by
    have := rows_at (P := P) (x := x) (Q := B ++ Q) ha
    simpa using this
  have HCX := Lib.hid hcx
  have HB := Lib.hid (fun (c : Nat) (y : List UInt8) (hc : B[c]? = some y) => show ((P ++ [x] ++ B ++ Q).map sv)[m + c]? = some (sv y) by
    have hlt : c < B.length := (List.getElem?_eq_some_iff.1 hc).1
    have e : (P ++ [x] ++ B ++ Q)[m + c]? = some y := by
      rw [List.append_assoc, List.getElem?_append_right (by simp; omega), List.getElem?_append_left (by simp; omega)]
      simp only [List.length_append, List.length_singleton]
      rw [show m + c - (P.length + 1) = c by omega, hc]
    rw [List.getElem?_map, e]
    rfl)
  clear h ha hb hs hn hl hax hcx
  go_enter Tryd.func90, Tryd.ntmps90
  go_wp2_with fail
  go_loopw [10, 11, 12] (fun v10 v11 _ wr => ∃ i j : Nat, v10 = .int .i64 (i : Int) ∧ v11 = .int .i64 (j : Int) ∧ m ≤ i ∧ i ≤ j ∧ j ≤ b ∧ (∀ z ∈ B.take (i - m), rk z < rk x) ∧ (∀ z ∈ B.drop (j - m), rk x ≤ rk z) ∧ Kp L (rowS g n cap (P ++ [x] ++ B ++ Q) :: R) W wr) (fun v10 v11 _ _ => (intOf v11).toNat - (intOf v10).toNat)
  case atStart =>
    refine ⟨m, b, rfl, rfl, Nat.le_refl _, hmb, Nat.le_refl _, (fun z hz => by rw [Nat.sub_self] at hz; cases hz), (fun z hz => ?_), HK.out⟩
    rw [List.drop_eq_nil_of_le (by have := HL.out.2.2.1; omega)] at hz
    cases hz
  case round =>
    obtain ⟨i, j, rfl, rfl, hmi, hij, hjb, h1, h2, hK⟩ := hrel
    clear HK
    have HKK := Lib.hid hK
    have H1 := Lib.hid h1
    have H2 := Lib.hid h2
    clear hK h1 h2
    by_cases hlt : i < j
    · have j1 : (i : Int) < (j : Int) := by omega
      obtain ⟨c, hc⟩ : ∃ c, (i + j) / 2 = c := ⟨_, rfl⟩
      have w1 : IntKind.i64.wrap ((i : Int) + (j : Int)) = (i : Int) + (j : Int) := IntWalk.i64_in _ (by omega)
      have w2 : ((i : Int) + (j : Int)) / 2 = (c : Int) := by omega
      have hci : i ≤ c ∧ c < j := by omega
      obtain ⟨hci, hcj⟩ := hci
      have b1 : (c : Int) < (n : Int) := by omega
      have b2 : (a : Int) < (n : Int) := by omega
      obtain ⟨y, hy⟩ : ∃ y, B[c - m]? = some y := ⟨_, List.getElem?_eq_getElem (by have := HL.out.2.2.1; omega)⟩
      have c1 : wr.cell? ⟨g, c, none⟩ = some (sv y) := own_cell (HKK.out.row 0 rfl) (by have := HB.out (c - m) y hy; rwa [show m + (c - m) = c by omega] at this)
      have c2 : wr.cell? ⟨g, a, none⟩ = some (sv x) := own_cell (HKK.out.row 0 rfl) HCX.out
      unfold sv at c1 c2
      obtain ⟨r, hr⟩ : ∃ r, cfL y x = r := ⟨_, rfl⟩
      have CX := Lib.hid (fun w => CC.out y x w)
      rw [hr] at CX
      have hneg := cfL_neg y x
      rw [hr] at hneg
      obtain ⟨sx, hsx⟩ : ∃ s, bs x = s := ⟨_, rfl⟩
      obtain ⟨sy, hsy⟩ : ∃ s, bs y = s := ⟨_, rfl⟩
      rw [hsx] at c2 CX
      rw [hsy] at c1 CX
      have HY := Lib.hid hy
      have HC := Lib.hid hc
      clear hsx hsy hr hy hc
      have hib : i ≤ 1000000000 ∧ j ≤ 1000000000 := by omega
      obtain ⟨hib, hjb2⟩ := hib
      by_cases hyx : rk y < rk x
      · have hv : r < 0 := hneg.2 hyx
        have hd : decide (r < 0) = true := decide_eq_true hv
        clear hneg
        go_upto_region 5 with fail
        go_quiet ((go_at_call 43; exact Calls.quiet_of_same (CX.out _)))
        go_wp2_with fail
        go_roundw
        case rel => exact ⟨c + 1, j, by simp, rfl, by omega, by omega, hjb, take_le HS.out HY.out hyx (by omega), H2.out, HKK.out.call (below_drewN (Below.refl _ wr) nq) rfl rfl rfl rfl⟩
        case measure => simp [intOf]; omega
      · have hv : ¬ r < 0 := fun q => hyx (hneg.1 q)
        have hd : decide (r < 0) = false := decide_eq_false hv
        clear hneg
        go_upto_region 5 with fail
        go_quiet ((go_at_call 43; exact Calls.quiet_of_same (CX.out _)))
        go_wp2_with fail
        go_roundw
        case rel => exact ⟨i, c, rfl, rfl, hmi, hci, by omega, H1.out, drop_le HS.out HY.out (by omega) rfl, HKK.out.call (below_drewN (Below.refl _ wr) nq) rfl rfl rfl rfl⟩
        case measure => simp [intOf]; omega
    · obtain rfl : i = j := by omega
      have j1 : ¬ (i : Int) < (i : Int) := by omega
      obtain ⟨i1, hi1⟩ : ∃ k, i - 1 = k := ⟨_, rfl⟩
      obtain ⟨s, hs1⟩ : ∃ k, i - m = k := ⟨_, rfl⟩
      have w3 : IntKind.i64.wrap ((i : Int) - 1) = (i1 : Int) := by rw [IntWalk.i64_in _ (by omega)]; omega
      have H1' := H1.out
      have H2' := H2.out
      rw [hs1] at H1' H2'
      have HST := Lib.hid (stb_first (k := rk) HS.out H1' H2')
      have hsB : s ≤ B.length := by have := HL.out.2.2.1; omega
      have his : a + s = i1 := by omega
      have HK0 := Lib.hid (show Kp L (rowS g n cap (P ++ (B.take 0 ++ x :: B.drop 0) ++ Q) :: R) W wr by simpa using HKK.out)
      have hi1b : i1 ≤ 1000000000 := by omega
      have hi1n : i1 < n := by have := HL.out.2.2.2; omega
      have HSB := Lib.hid hsB
      clear H1' H2' hs1 hi1 H1 H2 HKK hsB
      go_wp2_with fail
      go_loopw [13] (fun v13 wr => ∃ k t : Nat, v13 = .int .i64 (k : Int) ∧ a + t = k ∧ t ≤ s ∧ Kp L (rowS g n cap (P ++ (B.take t ++ x :: B.drop t) ++ Q) :: R) W wr) (fun v13 _ => i1 - (intOf v13).toNat)
      case atStart => exact ⟨a, 0, rfl, rfl, by omega, HK0.out⟩
      case round =>
        obtain ⟨k, t, rfl, hk, ht, hK⟩ := hrel
        clear HK0
        by_cases hlt2 : k < i1
        · have j3 : (k : Int) < (i1 : Int) := by omega
          obtain ⟨kp, hkp⟩ : ∃ q, k + 1 = q := ⟨_, rfl⟩
          have w4 : IntKind.i64.wrap ((k : Int) + 1) = (kp : Int) := by rw [IntWalk.i64_in _ (by omega)]; omega
          have b1 : (k : Int) < (n : Int) := by omega
          have b2 : (kp : Int) < (n : Int) := by omega
          have hbl := HSB.out
          obtain ⟨y, hy⟩ : ∃ y, B[t]'(by omega) = y := ⟨_, rfl⟩
          have h1 : B.drop t = y :: B.drop (t + 1) := by rw [← hy]; exact List.drop_eq_getElem_cons (by omega)
          have h3 : B.take (t + 1) = B.take t ++ [y] := by rw [← hy]; exact List.take_succ_eq_append_getElem (by omega)
          have hd : P ++ (B.take t ++ x :: B.drop t) ++ Q = (P ++ B.take t) ++ x :: ([] ++ y :: (B.drop (t + 1) ++ Q)) := by rw [h1]; simp only [List.append_assoc, List.cons_append, List.nil_append]
          have he : P ++ (B.take (t + 1) ++ x :: B.drop (t + 1)) ++ Q = (P ++ B.take t) ++ y :: ([] ++ x :: (B.drop (t + 1) ++ Q)) := by rw [h3]; simp only [List.append_assoc, List.cons_append, List.nil_append]
          rw [hd] at hK
          obtain ⟨c1, c2, f1, f2, c3, hK3⟩ := hK.swapS (i := k) (j := kp) (by omega) (by rw [List.length_append, List.length_take]; have := HL.out.1; omega) (by simp only [List.length_append, List.length_take, List.length_nil]; have := HL.out.1; omega)
          rw [← he] at hK3
          unfold sv at c1 c2 c3 hK3
          have K3 := Lib.hid hK3
          have HKp := Lib.hid hkp
          clear h1 h3 hd he hK hK3 hy hkp
          obtain ⟨sx, hsx⟩ : ∃ s, bs x = s := ⟨_, rfl⟩
          obtain ⟨sy, hsy⟩ : ∃ s, bs y = s := ⟨_, rfl⟩
          rw [hsx] at c1
          rw [hsy] at c2 c3
          rw [hsx, hsy] at K3
          clear hsx hsy
          go_upto_region 11 with fail
          go_big_region_o
          go_wp2_with fail
          go_roundw
          case rel => exact ⟨kp, t + 1, rfl, by have := HKp.out; omega, by omega, K3.out.drew⟩
          case measure => have := HKp.out; simp [intOf]; omega
        · have j3 : ¬ (k : Int) < (i1 : Int) := by omega
          obtain rfl : t = s := by omega
          have HK3 := Lib.hid hK
          clear hK
          go_wp2
          first
            | (go_end0; exact ⟨rfl, _, HST.out, by first | exact HK3.out | simpa using HK3.out⟩)
            | (go_ret; exact ⟨rfl, _, HST.out, by first | exact HK3.out | simpa using HK3.out⟩)
            | (refine bodyPost_ret (results_none rfl _ _ _) rfl ?_; exact ⟨rfl, _, HST.out, by first | exact HK3.out | simpa using HK3.out⟩)
end Go.Proofs.YtkfgonbopgdmgaaDoor.Px
