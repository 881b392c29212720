/- The library's IsSorted, Compact, Clone and Contains at strings: at a list that increases. -/
import Derived.Test.YtdeompnaojiajaaDoorLdW
import Derived.Test.YtdeompnaojiajaaDoorShelf
import Derived.Test.YtdeompnaojiajaaDoorLnV
namespace Go.Proofs.YtdeompnaojiajaaDoor.Px
open Go.RowKit
open Go.Maps (Keyed)
open Lk Ld

theorem nan_no (s : ByteArray) (W : World) : Calls Tryd.prog 55 #[.string s] W fun e w' => e = .returned (.bool false) ∧ w' = W := by
  have hq : (s.toList == s.toList) = true := by simp
  go_enter Tryd.func55, Tryd.ntmps55
  go_wp2_with fail
  exact bodyPost_ret (v := .bool false) (by simp [results, Tryd.results55, go_sem]) rfl ⟨rfl, rfl⟩
theorem less_no {x y : List UInt8} {s t : ByteArray} (hx : bs x = s) (hy : bs y = t) (h : y < x) (W : World) : Calls Tryd.prog 45 #[.string s, .string t] W fun e w' => e = .returned (.bool false) ∧ w' = W := by
  have hls := less_of hx hy
  rw [decide_eq_false (fun q => Std.lt_irrefl (Std.lt_trans h q : y < y))] at hls
  go_enter Tryd.func45, Tryd.ntmps45
  go_wp2_with (first | (go_at_call 55; refine (nan_no _ _).mono ?_; rintro e X ⟨rfl, rfl⟩))
  exact bodyPost_ret (v := .bool false) (by simp [results, Tryd.results45, go_sem]) rfl ⟨rfl, rfl⟩
theorem incr_at {A : List (List UInt8)} (h : A.Pairwise (fun a b => a < b)) {i j : Nat} {x y : List UInt8} (hx : A[i]? = some x) (hy : A[j]? = some y) (hij : i < j) : x < y := by
  obtain ⟨hi, e1⟩ := List.getElem?_eq_some_iff.1 hx
  obtain ⟨hj, e2⟩ := List.getElem?_eq_some_iff.1 hy
  rw [← e1, ← e2]
  exact List.pairwise_iff_getElem.1 h i j hi hj hij
set_option maxHeartbeats 4000000 in
set_option maxRecDepth 100000 in
theorem sorted_any (A : List (List UInt8)) (v : Value) (W : World) (hA : SlV W v 1 A.length (A.map svv)) (hinc : A.Pairwise (fun a b => a < b)) (h0 : 0 < A.length) :
    Calls Tryd.prog 26 #[v] W fun e w' => e = .returned (.bool true) ∧ Below W.heap.size W w' := by
  obtain ⟨b, o, c, rfl, hc1, hc2, hb, hcell⟩ := hA.allA h0
  obtain ⟨n, hn⟩ : ∃ n, A.length = n := ⟨_, rfl⟩
  rw [hn] at hc1 ⊢
  unfold maxLen at hc2
  have HN := Lib.hid hn
  have HI := Lib.hid hinc
  have HC := Lib.hid hcell
  have hn0 : 0 < n := by omega
  obtain ⟨p, hp⟩ : ∃ p, n = p + 1 := ⟨n - 1, by omega⟩
  subst hp
  have hw1 : IntKind.i64.wrap (((p : Int) + 1) - 1) = (p : Int) := by rw [show ((p : Int) + 1) - 1 = (p : Int) by omega]; exact IntWalk.i64_in _ (by omega)
  have hwp : IntKind.i64.wrap (p : Int) = (p : Int) := IntWalk.i64_in _ (by omega)
  clear hA hinc hcell hn h0
  go_enter Tryd.func26, Tryd.ntmps26
  go_wp2_with fail
  go_loopw [3] (fun v3 wr => ∃ i : Nat, i < p + 1 ∧ v3 = .int .i64 (i : Int) ∧ Below W.heap.size W wr) (fun v3 _ => (intOf v3).toNat)
  case atStart => exact ⟨p, by omega, rfl, Below.refl _ _⟩
  case round =>
    obtain ⟨i, hi, rfl, hbe⟩ := hrel
    have HBe := Lib.hid hbe
    clear hbe
    by_cases hlt : 0 < i
    · obtain ⟨j, rfl⟩ : ∃ j, i = j + 1 := ⟨i - 1, by omega⟩
      obtain ⟨x, hx⟩ : ∃ x, A[j + 1]? = some x := ⟨_, List.getElem?_eq_getElem (by rw [HN.out]; exact hi)⟩
      obtain ⟨y, hy⟩ : ∃ y, A[j]? = some y := ⟨_, List.getElem?_eq_getElem (by rw [HN.out]; omega)⟩
      have hyx := Lib.hid (incr_at HI.out hy hx (by omega))
      have k0 := (HBe.out.cell (p := ⟨b, o + (j + 1), none⟩) hb).trans (HC.out (j + 1) (.string (bs x)) (by rw [List.getElem?_map, hx]; rfl))
      have l0 := (HBe.out.cell (p := ⟨b, o + j, none⟩) hb).trans (HC.out j (.string (bs y)) (by rw [List.getElem?_map, hy]; rfl))
      obtain ⟨sx, hsx⟩ : ∃ s, bs x = s := ⟨_, rfl⟩
      obtain ⟨sy, hsy⟩ : ∃ s, bs y = s := ⟨_, rfl⟩
      rw [hsx] at k0
      rw [hsy] at l0
      have CL := Lib.hid (fun (Y : World) => less_no hsx hsy hyx.out Y)
      have hw2 : IntKind.i64.wrap (((j : Int) + 1) - 1) = (j : Int) := by rw [show ((j : Int) + 1) - 1 = (j : Int) by omega]; exact IntWalk.i64_in _ (by omega)
      have hwj : IntKind.i64.wrap (j : Int) = (j : Int) := IntWalk.i64_in _ (by omega)
      have hj1 : (j : Int) < (p : Int) + 1 := by omega
      have hj2 : (j : Int) + 1 < (p : Int) + 1 := by omega
      have hj3 : ((j : Int) + 1).toNat = j + 1 := by omega
      have hj4 : (0 : Int) ≤ (j : Int) + 1 := by omega
      have hj5 : (0 : Int) < (j : Int) + 1 := by omega
      clear hsx hsy hx hy
      go_upto_region 4 with fail
      go_quiet ((go_at_call 45; exact Calls.quiet_of_same (CL.out _)))
      go_wp2_with fail
      go_roundw
      case rel => exact ⟨j, by omega, by go_num, below_drewN HBe.out _⟩
      case measure => simp [intOf]
    · obtain rfl : i = 0 := by omega
      go_wp2_with fail
      exact bodyPost_ret (v := .bool true) (by simp [results, Tryd.results26, go_sem]) rfl ⟨rfl, HBe.out⟩
set_option maxHeartbeats 4000000 in
set_option maxRecDepth 100000 in
theorem compact_same (A : List (List UInt8)) (v : Value) (W : World) (hA : SlV W v 1 A.length (A.map svv)) (hinc : A.Pairwise (fun a b => a < b)) :
    Calls Tryd.prog 27 #[v] W fun e w' => e = .returned v ∧ Below W.heap.size W w' := by
  obtain ⟨a, c, rfl, hc1, hc2⟩ := hA.slA
  have hall := fun h0 => hA.allA h0
  obtain ⟨n, hn⟩ : ∃ n, A.length = n := ⟨_, rfl⟩
  rw [hn] at hc1 hall ⊢
  unfold maxLen at hc2
  have HN := Lib.hid hn
  have HI := Lib.hid hinc
  have HC := Lib.hid hall
  clear hA hinc hall hn
  by_cases hn2 : n < 2
  · have hnI : (n : Int) < 2 := by omega
    go_enter Tryd.func27, Tryd.ntmps27
    go_wp2_with fail
    exact bodyPost_ret (v := .slice a n c) (by simp [results, Tryd.results27, go_sem]) rfl ⟨rfl, Below.refl _ _⟩
  · have hnI : ¬ (n : Int) < 2 := by omega
    obtain ⟨b, o, c1, e1, _, _, hb, hcell⟩ := HC.out (by omega)
    simp only [Value.slice.injEq] at e1
    obtain ⟨rfl, _, rfl⟩ := e1
    have HC := Lib.hid hcell
    clear hcell
    go_enter Tryd.func27, Tryd.ntmps27
    go_wp2_with fail
    go_loopw [3] (fun v3 wr => ∃ i : Nat, i + 1 ≤ n ∧ v3 = .int .i64 ((i : Int) + 1) ∧ Below W.heap.size W wr) (fun v3 _ => n - (intOf v3).toNat)
    case atStart => exact ⟨0, by omega, rfl, Below.refl _ _⟩
    case round =>
      obtain ⟨j, hi, rfl, hbe⟩ := hrel
      have HBe := Lib.hid hbe
      clear hbe
      by_cases hlt : j + 1 < n
      · obtain ⟨x, hx⟩ : ∃ x, A[j + 1]? = some x := ⟨_, List.getElem?_eq_getElem (by rw [HN.out]; exact hlt)⟩
        obtain ⟨y, hy⟩ : ∃ y, A[j]? = some y := ⟨_, List.getElem?_eq_getElem (by rw [HN.out]; omega)⟩
        have hyx := incr_at HI.out hy hx (by omega)
        have k0 := (HBe.out.cell (p := ⟨b, o + (j + 1), none⟩) hb).trans (HC.out (j + 1) (.string (bs x)) (by rw [List.getElem?_map, hx]; rfl))
        have l0 := (HBe.out.cell (p := ⟨b, o + j, none⟩) hb).trans (HC.out j (.string (bs y)) (by rw [List.getElem?_map, hy]; rfl))
        have hq : ((bs x).toList == (bs y).toList) = false := by
          rw [beq_eq_false_iff_ne]
          intro e
          have e2 : x = y := bs_inj (ba_eq e)
          rw [e2] at hyx
          exact Std.lt_irrefl hyx
        obtain ⟨sx, hsx⟩ : ∃ s, bs x = s := ⟨_, rfl⟩
        obtain ⟨sy, hsy⟩ : ∃ s, bs y = s := ⟨_, rfl⟩
        rw [hsx] at k0 hq
        rw [hsy] at l0 hq
        have hw2 : IntKind.i64.wrap (((j : Int) + 1) - 1) = (j : Int) := by rw [show ((j : Int) + 1) - 1 = (j : Int) by omega]; exact IntWalk.i64_in _ (by omega)
        have hw3 : IntKind.i64.wrap (((j : Int) + 1) + 1) = (j : Int) + 1 + 1 := IntWalk.i64_in _ (by omega)
        have hwj : IntKind.i64.wrap (j : Int) = (j : Int) := IntWalk.i64_in _ (by omega)
        have hj1 : (j : Int) < (n : Int) := by omega
        have hj2 : (j : Int) + 1 < (n : Int) := by omega
        have hj3 : ((j : Int) + 1).toNat = j + 1 := by omega
        have hj4 : (0 : Int) ≤ (j : Int) + 1 := by omega
        clear hsx hsy hx hy hyx
        go_upto_region 6 with fail
        go_quiet (fail)
        go_wp2_with fail
        go_roundw
        case rel => exact ⟨j + 1, by omega, by go_num, below_drewN HBe.out _⟩
        case measure => simp [intOf]; omega
      · obtain rfl : n = j + 1 := by omega
        have hj2 : ¬ (j : Int) + 1 < (((j + 1 : Nat)) : Int) := by omega
        go_wp2_with fail
        exact bodyPost_ret (v := .slice (some ⟨b, o, none⟩) (j + 1) c) (by simp [results, Tryd.results27, go_sem]) rfl ⟨rfl, HBe.out⟩
theorem bs_at {A : List (List UInt8)} {W : World} {b o : Nat} (hcell : ∀ (j : Nat) (u : Value), (A.map svv)[j]? = some u → W.cell? ⟨b, o + j, none⟩ = some u) : ∀ j, j < (A.map bs).length → W.cell? ⟨b, o + j, none⟩ = some (.string ((A.map bs).getD j ByteArray.empty)) := by
  intro j hj
  rw [List.length_map] at hj
  refine hcell j _ ?_
  rw [List.getElem?_map, List.getD, List.getElem?_map, List.getElem?_eq_getElem hj]
  rfl
theorem contains_yes (A : List (List UInt8)) (v : Value) (x : List UInt8) (s : ByteArray) (hs : bs x = s) (W : World) (hA : SlV W v 1 A.length (A.map svv)) (hx : x ∈ A) :
    Calls Tryd.prog 29 #[v, .string s] W fun e w' => e = .returned (.bool true) ∧ w' = W := by
  have h0 : 0 < A.length := List.length_pos_of_mem hx
  obtain ⟨b, o, c, rfl, hc1, hc2, hb, hcell⟩ := hA.allA h0
  unfold maxLen at hc2
  refine (Tryd.slices_Contains_string b o A.length c (A.map bs) s W (by rw [List.length_map]; exact Nat.le_refl _) (by omega) (bs_at hcell)).mono ?_
  rintro e w' ⟨rfl, rfl⟩
  refine ⟨?_, rfl⟩
  rw [(Lib.containsS_iff _ _).2]
  rw [List.take_of_length_le (by rw [List.length_map]; exact Nat.le_refl _), ← hs]
  exact List.mem_map.2 ⟨x, hx, rfl⟩
theorem clone_strs (A : List (List UInt8)) (v : Value) (W : World) (hA : SlV W v 1 A.length (A.map svv)) (h0 : 0 < A.length) (hmax : A.length ≤ 1000000) :
    Calls Tryd.prog 28 #[v] W fun e w' => ∃ v', e = .returned v' ∧ SlV w' v' 1 A.length (A.map svv) ∧ Below W.heap.size W w' := by
  obtain ⟨b, o, c, rfl, hc1, hc2, hb, hcell⟩ := hA.allA h0
  refine (Tryd.slices_Clone_string b o A.length c (A.map bs) W (by rw [List.length_map]; exact Nat.le_refl _) (by omega) (bs_at hcell)).mono ?_
  rintro e w' ⟨v', rfl, hown, -, hB⟩
  refine ⟨v', rfl, ?_, hB⟩
  rw [List.take_of_length_le (by rw [List.length_map]; exact Nat.le_refl _), List.map_map] at hown
  exact SlV.of_own hown
end Go.Proofs.YtdeompnaojiajaaDoor.Px
