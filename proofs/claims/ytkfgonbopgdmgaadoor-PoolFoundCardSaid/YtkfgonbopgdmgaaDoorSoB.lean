/- The library's stable sort at strings: rotation of rows. -/
import Derived.Test.YtkfgonbopgdmgaaDoorSoA
namespace Go.Proofs.YtkfgonbopgdmgaaDoor.Px
open Go.RowKit
open St

set_option maxHeartbeats 8000000 in
set_option maxRecDepth 100000 in
theorem rotate_any (P X Y Q : List (List UInt8)) (cv : Value) (g n cap a m b : Nat) (L : List (Nat × Obj)) (R : List Rw) (W w : World) (h : Kp L (rowS g n cap (P ++ X ++ Y ++ Q) :: R) W w)
    (ha : P.length = a) (hm : a + X.length = m) (hb : m + Y.length = b) (hX : 0 < X.length) (hY : 0 < Y.length) (hn : (P ++ X ++ Y ++ Q).length = n) (hb' : n ≤ 1000000000) :
    Calls Tryd.prog 96 #[.slice (some ⟨g, 0, none⟩) n cap, .int .i64 (a : Int), .int .i64 (m : Int), .int .i64 (b : Int), cv] w fun e w' => e = .returned (.tuple #[]) ∧ Kp L (rowS g n cap (P ++ Y ++ X ++ Q) :: R) W w' := by
  have HK := Lib.hid h
  obtain ⟨xl, hxl⟩ : ∃ k, X.length = k := ⟨_, rfl⟩
  obtain ⟨yl, hyl⟩ : ∃ k, Y.length = k := ⟨_, rfl⟩
  have hl : a + xl + yl + Q.length = n := by rw [← hn]; simp only [List.length_append]; omega
  have w1 : IntKind.i64.wrap ((m : Int) - (a : Int)) = (xl : Int) := by rw [IntWalk.i64_in _ (by omega)]; omega
  have w2 : IntKind.i64.wrap ((b : Int) - (m : Int)) = (yl : Int) := by rw [IntWalk.i64_in _ (by omega)]; omega
  have HF := Lib.hid (show P ++ Y ++ X ++ Q = P ++ Y ++ X ++ Q from rfl)
  have HS := Lib.hid (show 0 < xl ∧ 0 < yl ∧ a + xl = m ∧ m ≤ n by omega)
  have HX := Lib.hid hxl
  have HY := Lib.hid hyl
  have HA := Lib.hid ha
  have HN := Lib.hid hn
  clear h ha hm hb hX hY hn hl hxl hyl
  go_enter Tryd.func96, Tryd.ntmps96
  go_wp2_with fail
  go_loopw [10, 11] (fun v10 v11 wr => ∃ (P' U V Q' : List (List UInt8)) (i j : Nat), v10 = .int .i64 (i : Int) ∧ v11 = .int .i64 (j : Int) ∧ U.length = i ∧ V.length = j ∧ 0 < i ∧ 0 < j ∧ P'.length + i = m ∧ (P' ++ U ++ V ++ Q').length = n ∧ P' ++ V ++ U ++ Q' = P ++ Y ++ X ++ Q ∧ Kp L (rowS g n cap (P' ++ U ++ V ++ Q') :: R) W wr) (fun v10 v11 _ => (intOf v10).toNat + (intOf v11).toNat)
  case atStart => exact ⟨P, X, Y, Q, xl, yl, rfl, rfl, HX.out, HY.out, HS.out.1, HS.out.2.1, by rw [HA.out]; exact HS.out.2.2.1, HN.out, rfl, HK.out⟩
  case round =>
    obtain ⟨P', U, V, Q', i, j, rfl, rfl, hU, hV, hi, hj, hPm, hN, hF, hK⟩ := hrel
    clear HK
    have hml := HS.out.2.2.2
    have hl : P'.length + i + j + Q'.length = n := by rw [← hN]; simp only [List.length_append]; omega
    obtain ⟨mi, hmi⟩ : ∃ k, P'.length = k := ⟨_, rfl⟩
    have w3 : IntKind.i64.wrap ((m : Int) - (i : Int)) = (mi : Int) := by rw [IntWalk.i64_in _ (by omega)]; omega
    have HKK := Lib.hid hK
    have HFF := Lib.hid hF
    have HNN := Lib.hid hN
    have HU := Lib.hid hU
    have HV := Lib.hid hV
    have HM := Lib.hid hmi
    have HL := Lib.hid hl
    have hbd : i ≤ 1000000000 ∧ j ≤ 1000000000 := by omega
    obtain ⟨hbd1, hbd2⟩ := hbd
    have HP := Lib.hid hPm
    clear hK hF hN hU hV hmi hl hPm
    by_cases hij : i = j
    · subst hij
      go_wp2_with fail
      refine (swapRange_any P' U [] V Q' cv g n cap mi m i L R W _ (by rw [List.append_nil]; exact HKK.out) HM.out (by rw [HM.out]; have := HP.out; have := HM.out; simp; omega) HU.out HV.out (by rw [List.append_nil]; exact HNN.out) (by omega)).mono ?_
      rintro e V7 ⟨rfl, hk⟩
      rw [List.append_nil, HFF.out] at hk
      go_wp2
      go_end0
      exact ⟨rfl, hk⟩
    · have hijz : ¬ (i : Int) = (j : Int) := by omega
      by_cases hgt : j < i
      · have hgz : (j : Int) < (i : Int) := by omega
        obtain ⟨ij, hijd⟩ : ∃ k, i - j = k := ⟨_, rfl⟩
        have w4 : IntKind.i64.wrap ((i : Int) - (j : Int)) = (ij : Int) := by rw [IntWalk.i64_in _ (by omega)]; omega
        have hsp : U.take j ++ U.drop j = U := List.take_append_drop j U
        have hk0 : Kp L (rowS g n cap (P' ++ U.take j ++ U.drop j ++ V ++ Q') :: R) W wr := by rw [List.append_assoc P', hsp]; exact HKK.out
        have hn0 : (P' ++ U.take j ++ U.drop j ++ V ++ Q').length = n := by rw [List.append_assoc P', hsp]; exact HNN.out
        have HK0 := Lib.hid hk0
        have HN0 := Lib.hid hn0
        have HSp := Lib.hid hsp
        clear hk0 hn0 hsp
        go_wp2_with fail
        refine (swapRange_any P' (U.take j) (U.drop j) V Q' cv g n cap mi m j L R W _ HK0.out HM.out (by have h1 := HP.out; have h2 := HM.out; have h3 := HU.out; rw [List.length_drop]; omega) (by have h3 := HU.out; rw [List.length_take]; omega) HV.out HN0.out (by omega)).mono ?_
        rintro e V7 ⟨rfl, hk⟩
        have K7 := Lib.hid hk
        clear hk
        go_wp2_with fail
        go_roundw
        case rel =>
          have h1 := HP.out; have h2 := HM.out; have h3 := HU.out; have h4 := HV.out; have h5 := HNN.out
          refine ⟨P' ++ V, U.drop j, U.take j, Q', ij, j, rfl, rfl, by rw [List.length_drop]; omega, by rw [List.length_take]; omega, by omega, hj, by rw [List.length_append]; omega, ?_, ?_, ?_⟩
          · rw [← h5]; simp only [List.length_append, List.length_take, List.length_drop]; omega
          · rw [← HFF.out, List.append_assoc (P' ++ V), HSp.out]
          · exact K7.out
        case measure => simp [intOf]; omega
      · have hgz : ¬ (j : Int) < (i : Int) := by omega
        obtain ⟨ij, hijd⟩ : ∃ k, j - i = k := ⟨_, rfl⟩
        obtain ⟨mj, hmj⟩ : ∃ k, m + j = k := ⟨_, rfl⟩
        obtain ⟨mji, hmji⟩ : ∃ k, m + j - i = k := ⟨_, rfl⟩
        have w4 : IntKind.i64.wrap ((j : Int) - (i : Int)) = (ij : Int) := by rw [IntWalk.i64_in _ (by omega)]; omega
        have w5 : IntKind.i64.wrap ((m : Int) + (j : Int)) = (mj : Int) := by rw [IntWalk.i64_in _ (by omega)]; omega
        have w6 : IntKind.i64.wrap ((mj : Int) - (i : Int)) = (mji : Int) := by rw [IntWalk.i64_in _ (by omega)]; omega
        have hsp : V.take ij ++ V.drop ij = V := List.take_append_drop ij V
        have hk0 : Kp L (rowS g n cap (P' ++ U ++ V.take ij ++ V.drop ij ++ Q') :: R) W wr := by rw [List.append_assoc (P' ++ U), hsp]; exact HKK.out
        have hn0 : (P' ++ U ++ V.take ij ++ V.drop ij ++ Q').length = n := by rw [List.append_assoc (P' ++ U), hsp]; exact HNN.out
        have HK0 := Lib.hid hk0
        have HN0 := Lib.hid hn0
        have HSp := Lib.hid hsp
        clear hk0 hn0 hsp
        go_wp2_with fail
        refine (swapRange_any P' U (V.take ij) (V.drop ij) Q' cv g n cap mi mji i L R W _ HK0.out HM.out (by have h1 := HP.out; have h2 := HM.out; have h3 := HV.out; rw [List.length_take]; omega) HU.out (by have h3 := HV.out; rw [List.length_drop]; omega) HN0.out (by omega)).mono ?_
        rintro e V7 ⟨rfl, hk⟩
        have K7 := Lib.hid hk
        clear hk
        go_wp2_with fail
        go_roundw
        case rel =>
          have h1 := HP.out; have h2 := HM.out; have h3 := HU.out; have h4 := HV.out; have h5 := HNN.out
          refine ⟨P', V.drop ij, V.take ij, U ++ Q', i, ij, rfl, rfl, by rw [List.length_drop]; omega, by rw [List.length_take]; omega, hi, by omega, by omega, ?_, ?_, ?_⟩
          · rw [← h5]; simp only [List.length_append, List.length_take, List.length_drop]; omega
          · rw [← HFF.out, ← List.append_assoc, List.append_assoc P', HSp.out]
          · rw [← List.append_assoc]; exact K7.out
        case measure => simp [intOf]; omega
end Go.Proofs.YtkfgonbopgdmgaaDoor.Px
