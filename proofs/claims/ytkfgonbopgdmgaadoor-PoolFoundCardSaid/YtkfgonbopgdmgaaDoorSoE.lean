/- The library's stable sort at strings: merging where the second row has one string. -/
import Derived.Test.YtkfgonbopgdmgaaDoorSoD
namespace Go.Proofs.YtkfgonbopgdmgaaDoor.Px
open Go.RowKit
open St Po

theorem take_le2 {B : List (List UInt8)} {x : List UInt8} {c i : Nat} {y : List UInt8} (hB : B.Pairwise (fun x y => rk x ≤ rk y)) (hc : B[c]? = some y) (hy : rk y ≤ rk x) (hi : i = c + 1) : ∀ z ∈ B.take i, rk z ≤ rk x := by
  subst hi
  intro z hz
  have := le_take hB (s := c + 1) (by omega) (by simpa using hc) z hz
  omega
theorem drop_lt {B : List (List UInt8)} {x : List UInt8} {c i : Nat} {y : List UInt8} (hB : B.Pairwise (fun x y => rk x ≤ rk y)) (hc : B[c]? = some y) (hy : rk x < rk y) (hi : i = c) : ∀ z ∈ B.drop i, rk x < rk z := by
  subst hi
  intro z hz
  have := le_drop hB hc z hz
  omega
set_option maxHeartbeats 16000000 in
set_option maxRecDepth 100000 in
theorem symLast_any (P A Q : List (List UInt8)) (y : List UInt8) (g n cap a m b : Nat) (L : List (Nat × Obj)) (R : List Rw) (W w : World) (h : Kp L (rowS g n cap (P ++ A ++ [y] ++ Q) :: R) W w)
    (ha : P.length = a) (hm : a + A.length = m) (hb : m + 1 = b) (h2 : 2 ≤ A.length) (hs : A.Pairwise (fun x y => rk x ≤ rk y)) (hn : (P ++ A ++ [y] ++ Q).length = n) (hb' : n ≤ 1000000000) :
    Calls Tryd.prog 90 #[.slice (some ⟨g, 0, none⟩) n cap, .int .i64 (a : Int), .int .i64 (m : Int), .int .i64 (b : Int), cmpV] w fun e w' => e = .returned (.tuple #[]) ∧ ∃ C, Stb rk (A ++ [y]) C ∧ Kp L (rowS g n cap (P ++ C ++ Q) :: R) W w' := by
  have HK := Lib.hid h
  have hl : a + A.length + 1 + Q.length = n := by rw [← hn]; simp only [List.length_append, List.length_singleton]; omega
  have mixed : Tryd.prog.follows Departure.mixedOrders = true := by kernel_rfl
  have CC := Lib.hid (fun x y w => cmp_any x y w)
  unfold cmpV
  obtain ⟨al, hal⟩ : ∃ k, A.length = k := ⟨_, rfl⟩
  have w0 : IntKind.i64.wrap ((m : Int) - (a : Int)) = (al : Int) := by rw [IntWalk.i64_in _ (by omega)]; omega
  have hne : ¬ (al : Int) = 1 := by omega
  have hneb : ((al : Int) == 1) = false := by simp; omega
  have w9 : IntKind.i64.wrap ((b : Int) - (m : Int)) = 1 := by rw [IntWalk.i64_in _ (by omega)]; omega
  have hmn : m < n := by omega
  have ham : a ≤ m := by omega
  have HL := Lib.hid (And.intro ha (And.intro hm (And.intro hal hl)))
  have HS := Lib.hid hs
  have hcy : ((P ++ A ++ [y] ++ Q).map sv)[m]? = some (sv y) := by
    have := rows_at (P := P ++ A) (x := y) (Q := Q) (i := m) (by rw [List.length_append]; omega)
    simpa using this
  have HCY := Lib.hid hcy
  have HB := Lib.hid (fun (c : Nat) (z : List UInt8) (hc : A[c]? = some z) => show ((P ++ A ++ [y] ++ Q).map sv)[a + c]? = some (sv z) by
    have hlt : c < A.length := (List.getElem?_eq_some_iff.1 hc).1
    have e : (P ++ A ++ [y] ++ Q)[a + c]? = some z := by
      rw [List.append_assoc, List.getElem?_append_left (by simp; omega), List.getElem?_append_right (by omega), show a + c - P.length = c by omega, hc]
    rw [List.getElem?_map, e]
    rfl)
  clear h ha hb hs hn hl hcy hal hm
  go_enter Tryd.func90, Tryd.ntmps90
  go_wp2_with fail
  go_loopw [14, 15, 16] (fun v14 v15 _ wr => ∃ i j : Nat, v14 = .int .i64 (i : Int) ∧ v15 = .int .i64 (j : Int) ∧ a ≤ i ∧ i ≤ j ∧ j ≤ m ∧ (∀ z ∈ A.take (i - a), rk z ≤ rk y) ∧ (∀ z ∈ A.drop (j - a), rk y < rk z) ∧ Kp L (rowS g n cap (P ++ A ++ [y] ++ Q) :: R) W wr) (fun v14 v15 _ _ => (intOf v15).toNat - (intOf v14).toNat)
  case atStart =>
    refine ⟨a, m, rfl, rfl, Nat.le_refl _, ham, Nat.le_refl _, (fun z hz => by rw [Nat.sub_self] at hz; cases hz), (fun z hz => ?_), HK.out⟩
    rw [List.drop_eq_nil_of_le (by have := HL.out.2.1; omega)] at hz
    cases hz
  case round =>
    obtain ⟨i, j, rfl, rfl, hmi, hij, hjb, h1, h2, hK⟩ := hrel
    clear HK
    have HKK := Lib.hid hK
    have H1 := Lib.hid h1
    have H2 := Lib.hid h2
    clear hK h1 h2
    by_cases hlt : i < j
    · have j1 : (i : Int) < (j : Int) := by omega
      obtain ⟨c, hc⟩ : ∃ c, (i + j) / 2 = c := ⟨_, rfl⟩
      have w1 : IntKind.i64.wrap ((i : Int) + (j : Int)) = (i : Int) + (j : Int) := IntWalk.i64_in _ (by omega)
      have w2 : ((i : Int) + (j : Int)) / 2 = (c : Int) := by omega
      have hci : i ≤ c ∧ c < j := by omega
      obtain ⟨hci, hcj⟩ := hci
      have b1 : (c : Int) < (n : Int) := by omega
      have b2 : (m : Int) < (n : Int) := by omega
      obtain ⟨z, hz⟩ : ∃ y, A[c - a]? = some y := ⟨_, List.getElem?_eq_getElem (by have := HL.out.2.1; omega)⟩
      have c1 : wr.cell? ⟨g, c, none⟩ = some (sv z) := own_cell (HKK.out.row 0 rfl) (by have := HB.out (c - a) z hz; rwa [show a + (c - a) = c by omega] at this)
      have c2 : wr.cell? ⟨g, m, none⟩ = some (sv y) := own_cell (HKK.out.row 0 rfl) HCY.out
      unfold sv at c1 c2
      obtain ⟨r, hr⟩ : ∃ r, cfL y z = r := ⟨_, rfl⟩
      have CX := Lib.hid (fun w => CC.out y z w)
      rw [hr] at CX
      have hneg := cfL_neg y z
      rw [hr] at hneg
      obtain ⟨sy, hsy⟩ : ∃ s, bs y = s := ⟨_, rfl⟩
      obtain ⟨sz, hsz⟩ : ∃ s, bs z = s := ⟨_, rfl⟩
      rw [hsy] at c2 CX
      rw [hsz] at c1 CX
      have HZ := Lib.hid hz
      have HC := Lib.hid hc
      clear hsy hsz hr hz hc
      have hib : i ≤ 1000000000 ∧ j ≤ 1000000000 := by omega
      obtain ⟨hib, hjb2⟩ := hib
      by_cases hyx : rk y < rk z
      · have hv : r < 0 := hneg.2 hyx
        have hd : decide (r < 0) = true := decide_eq_true hv
        clear hneg
        go_upto_region 17 with fail
        go_quiet ((go_at_call 43; exact Calls.quiet_of_same (CX.out _)))
        go_wp2_with fail
        go_roundw
        case rel => exact ⟨i, c, rfl, rfl, hmi, hci, by omega, H1.out, drop_lt HS.out HZ.out hyx rfl, HKK.out.call (below_drewN (Below.refl _ wr) nq) rfl rfl rfl rfl⟩
        case measure => simp [intOf]; omega
      · have hv : ¬ r < 0 := fun q => hyx (hneg.1 q)
        have hd : decide (r < 0) = false := decide_eq_false hv
        clear hneg
        go_upto_region 17 with fail
        go_quiet ((go_at_call 43; exact Calls.quiet_of_same (CX.out _)))
        go_wp2_with fail
        go_roundw
        case rel => exact ⟨c + 1, j, by simp, rfl, by omega, by omega, hjb, take_le2 HS.out HZ.out (by omega) (by omega), H2.out, HKK.out.call (below_drewN (Below.refl _ wr) nq) rfl rfl rfl rfl⟩
        case measure => simp [intOf]; omega
    · obtain rfl : i = j := by omega
      have j1 : ¬ (i : Int) < (i : Int) := by omega
      obtain ⟨s, hs1⟩ : ∃ k, i - a = k := ⟨_, rfl⟩
      have H1' := H1.out
      have H2' := H2.out
      rw [hs1] at H1' H2'
      have HST := Lib.hid (stb_last (k := rk) HS.out H1' H2')
      have hsB : s ≤ A.length := by have := HL.out.2.1; omega
      have his : a + s = i := by omega
      have HK0 := Lib.hid (show Kp L (rowS g n cap (P ++ (A.take A.length ++ y :: A.drop A.length) ++ Q) :: R) W wr by simpa using HKK.out)
      have HSB := Lib.hid hsB
      clear H1' H2' hs1 H1 H2 HKK hsB
      go_wp2_with fail
      go_loopw [17] (fun v17 wr => ∃ k t : Nat, v17 = .int .i64 (k : Int) ∧ a + t = k ∧ s ≤ t ∧ t ≤ A.length ∧ Kp L (rowS g n cap (P ++ (A.take t ++ y :: A.drop t) ++ Q) :: R) W wr) (fun v17 _ => (intOf v17).toNat)
      case atStart => exact ⟨m, A.length, rfl, HL.out.2.1, HSB.out, Nat.le_refl _, HK0.out⟩
      case round =>
        obtain ⟨k, t, rfl, hk, ht, htA, hK⟩ := hrel
        clear HK0
        by_cases hlt2 : i < k
        · have j3 : (i : Int) < (k : Int) := by omega
          obtain ⟨kp, hkp⟩ : ∃ q, k - 1 = q := ⟨_, rfl⟩
          obtain ⟨tp, htp⟩ : ∃ q, t - 1 = q := ⟨_, rfl⟩
          have hkn : k ≤ m := by have := HL.out.2.1; omega
          have w4 : IntKind.i64.wrap ((k : Int) - 1) = (kp : Int) := by rw [IntWalk.i64_in _ (by omega)]; omega
          have b1 : (k : Int) < (n : Int) := by omega
          have b2 : (kp : Int) < (n : Int) := by omega
          have e1 : t = tp + 1 := by omega
          subst e1
          obtain ⟨z, hz⟩ : ∃ y, A[tp]'(by omega) = y := ⟨_, rfl⟩
          have h1 : A.drop tp = z :: A.drop (tp + 1) := by rw [← hz]; exact List.drop_eq_getElem_cons (by omega)
          have h3 : A.take (tp + 1) = A.take tp ++ [z] := by rw [← hz]; exact List.take_succ_eq_append_getElem (by omega)
          have hd : P ++ (A.take (tp + 1) ++ y :: A.drop (tp + 1)) ++ Q = (P ++ A.take tp) ++ z :: ([] ++ y :: (A.drop (tp + 1) ++ Q)) := by rw [h3]; simp only [List.append_assoc, List.cons_append, List.nil_append]
          have he : P ++ (A.take tp ++ y :: A.drop tp) ++ Q = (P ++ A.take tp) ++ y :: ([] ++ z :: (A.drop (tp + 1) ++ Q)) := by rw [h1]; simp only [List.append_assoc, List.cons_append, List.nil_append]
          rw [hd] at hK
          obtain ⟨c1, c2, f1, f2, c3, hK3⟩ := hK.swapR (i := kp) (j := k) (by omega) (by rw [List.length_append, List.length_take]; have := HL.out.1; omega) (by simp only [List.length_append, List.length_take, List.length_nil]; have := HL.out.1; omega)
          rw [← he] at hK3
          unfold sv at c1 c2 c3 hK3
          have K3 := Lib.hid hK3
          have HKp := Lib.hid hkp
          clear h1 h3 hd he hK hK3 hz hkp htp
          obtain ⟨sz, hsz⟩ : ∃ s, bs z = s := ⟨_, rfl⟩
          obtain ⟨sy, hsy⟩ : ∃ s, bs y = s := ⟨_, rfl⟩
          rw [hsz] at c1 c3
          rw [hsy] at c2
          rw [hsz, hsy] at K3
          clear hsz hsy
          have hkb : k ≤ 1000000000 := by omega
          go_upto_region 23 with fail
          go_big_region_o
          go_wp2_with fail
          go_roundw
          case rel => exact ⟨kp, tp, rfl, by have := HKp.out; omega, by omega, by omega, K3.out.drew⟩
          case measure => have := HKp.out; simp [intOf]; omega
        · have j3 : ¬ (i : Int) < (k : Int) := by omega
          obtain rfl : t = s := by omega
          have HK3 := Lib.hid hK
          clear hK
          go_wp2
          first
            | (go_end0; exact ⟨rfl, _, HST.out, by first | exact HK3.out | simpa using HK3.out⟩)
            | (go_ret; exact ⟨rfl, _, HST.out, by first | exact HK3.out | simpa using HK3.out⟩)
            | (refine bodyPost_ret (results_none rfl _ _ _) rfl ?_; exact ⟨rfl, _, HST.out, by first | exact HK3.out | simpa using HK3.out⟩)
end Go.Proofs.YtkfgonbopgdmgaaDoor.Px
