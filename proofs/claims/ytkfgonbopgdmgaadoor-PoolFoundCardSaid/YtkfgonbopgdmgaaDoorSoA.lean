/- The library's stable sort at strings: exchanges of rows. -/
import Derived.Test.YtkfgonbopgdmgaaDoorKa
import Derived.Test.YtkfgonbopgdmgaaDoorStQ
import Derived.BigRegion
import Derived.Deep.Cut
import Derived.Deep.DeepCutAuto
import Derived.Deep.LoopGhost
import Derived.Shelf.RegionOpenPlain
namespace Go.Proofs.YtkfgonbopgdmgaaDoor.Px
open Go.RowKit
open St

def sv (s : List UInt8) : Value := .string (bs s)
/-- a row of strings that the call owns -/
def rowS (g n cap : Nat) (D : List (List UInt8)) : Rw := ⟨.slice (some ⟨g, 0, none⟩) n cap, 9, 1, n, D.map sv⟩
theorem rows_swap {P M Q : List (List UInt8)} {x y : List UInt8} {i j : Nat} (hi : P.length = i) (hj : P.length + 1 + M.length = j) :
    (((P ++ x :: (M ++ y :: Q)).map sv).set i (sv y)).set j (sv x) = (P ++ y :: (M ++ x :: Q)).map sv := by
  simp only [List.map_append, List.map_cons]
  rw [List.set_append_right _ _ (by rw [List.length_map]; omega), List.length_map, hi, Nat.sub_self, List.set_cons_zero, List.set_append_right _ _ (by rw [List.length_map]; omega), List.length_map, hi]
  rw [show j - i = M.length + 1 by omega, List.set_cons_succ, List.set_append_right _ _ (by rw [List.length_map]; exact Nat.le_refl _), List.length_map, Nat.sub_self, List.set_cons_zero]
theorem rows_at {P Q : List (List UInt8)} {x : List UInt8} {i : Nat} (hi : P.length = i) : ((P ++ x :: Q).map sv)[i]? = some (sv x) := by
  rw [List.map_append, List.getElem?_append_right (by rw [List.length_map]; omega), List.length_map, hi, Nat.sub_self]
  rfl
/-- two strings of a row that is owned, exchanged -/
theorem Kp.swapS {L : List (Nat × Obj)} {R : List Rw} {W X : World} {g n cap : Nat} {P M Q : List (List UInt8)} {x y : List UInt8} {i j : Nat} (h : Kp L (rowS g n cap (P ++ x :: (M ++ y :: Q)) :: R) W X) (hn : 0 < n) (hi : P.length = i) (hj : P.length + 1 + M.length = j) :
    X.cell? ⟨g, i, none⟩ = some (sv x) ∧ X.cell? ⟨g, j, none⟩ = some (sv y) ∧ X.frozen? ⟨g, i, none⟩ = false ∧ X.frozen? ⟨g, j, none⟩ = false ∧ (X.setCell ⟨g, i, none⟩ (sv y)).cell? ⟨g, j, none⟩ = some (sv y) ∧
      Kp L (rowS g n cap (P ++ y :: (M ++ x :: Q)) :: R) W ((X.setCell ⟨g, i, none⟩ (sv y)).setCell ⟨g, j, none⟩ (sv x)) := by
  have e : P ++ x :: (M ++ y :: Q) = (P ++ x :: M) ++ y :: Q := by simp
  have h1 := h.put hn i (sv y)
  have h2 := h1.put hn j (sv x)
  have a1 := rows_at (x := x) (Q := M ++ y :: Q) hi
  have a2 : ((P ++ x :: (M ++ y :: Q)).map sv)[j]? = some (sv y) := by
    rw [e]
    exact rows_at (by rw [List.length_append, List.length_cons]; omega)
  refine ⟨own_cell (h.row 0 rfl) a1, own_cell (h.row 0 rfl) a2, h.free hn i, h.free hn j, own_cell (h1.row 0 rfl) ?_, ?_⟩
  · rw [List.getElem?_set_ne (by omega)]
    exact a2
  · rw [rows_swap hi hj] at h2
    exact h2
set_option maxHeartbeats 8000000 in
set_option maxRecDepth 100000 in
theorem swapRange_any (P X M Y Q : List (List UInt8)) (cv : Value) (g n cap a b c : Nat) (L : List (Nat × Obj)) (R : List Rw) (W w : World) (h : Kp L (rowS g n cap (P ++ X ++ M ++ Y ++ Q) :: R) W w)
    (ha : P.length = a) (hb : P.length + c + M.length = b) (hX : X.length = c) (hY : Y.length = c) (hn : (P ++ X ++ M ++ Y ++ Q).length = n) (hb' : n ≤ 4611686018427387904) :
    Calls Tryd.prog 102 #[.slice (some ⟨g, 0, none⟩) n cap, .int .i64 (a : Int), .int .i64 (b : Int), .int .i64 (c : Int), cv] w fun e w' => e = .returned (.tuple #[]) ∧ Kp L (rowS g n cap (P ++ Y ++ M ++ X ++ Q) :: R) W w' := by
  have HK := Lib.hid (show Kp L (rowS g n cap (P ++ (Y.take 0 ++ X.drop 0) ++ M ++ (X.take 0 ++ Y.drop 0) ++ Q) :: R) W w by simpa using h)
  have hl : P.length + c + M.length + c + Q.length = n := by rw [← hn]; simp only [List.length_append]; omega
  have HL := Lib.hid (And.intro ha (And.intro hb (And.intro hX (And.intro hY hl))))
  clear h ha hb hX hY hn hl
  go_enter Tryd.func102, Tryd.ntmps102
  go_wp2
  go_loopw [10] (fun v10 wr => ∃ i : Nat, i ≤ c ∧ v10 = .int .i64 i ∧ Kp L (rowS g n cap (P ++ (Y.take i ++ X.drop i) ++ M ++ (X.take i ++ Y.drop i) ++ Q) :: R) W wr) (fun v10 _ => c - (intOf v10).toNat)
  case atStart => exact ⟨0, by omega, rfl, HK.out⟩
  case round =>
    obtain ⟨i, hi, rfl, hK⟩ := hrel
    have HK2 := Lib.hid hK
    clear hK HK
    obtain ⟨ha, hb, hX, hY, hl⟩ := HL.out
    by_cases hlt : i < c
    · have h1 : X.drop i = X[i]'(by omega) :: X.drop (i + 1) := List.drop_eq_getElem_cons (by omega)
      have h2 : Y.drop i = Y[i]'(by omega) :: Y.drop (i + 1) := List.drop_eq_getElem_cons (by omega)
      have h3 : X.take (i + 1) = X.take i ++ [X[i]'(by omega)] := List.take_succ_eq_append_getElem (by omega)
      have h4 : Y.take (i + 1) = Y.take i ++ [Y[i]'(by omega)] := List.take_succ_eq_append_getElem (by omega)
      obtain ⟨x, hx⟩ : ∃ x, X[i]'(by omega) = x := ⟨_, rfl⟩
      obtain ⟨y, hy⟩ : ∃ y, Y[i]'(by omega) = y := ⟨_, rfl⟩
      rw [hx] at h1 h3
      rw [hy] at h2 h4
      have hd : P ++ (Y.take i ++ X.drop i) ++ M ++ (X.take i ++ Y.drop i) ++ Q = (P ++ Y.take i) ++ x :: ((X.drop (i + 1) ++ M ++ X.take i) ++ y :: (Y.drop (i + 1) ++ Q)) := by
        rw [h1, h2]; simp only [List.append_assoc, List.cons_append]
      have he : P ++ (Y.take (i + 1) ++ X.drop (i + 1)) ++ M ++ (X.take (i + 1) ++ Y.drop (i + 1)) ++ Q = (P ++ Y.take i) ++ y :: ((X.drop (i + 1) ++ M ++ X.take i) ++ x :: (Y.drop (i + 1) ++ Q)) := by
        rw [h3, h4]; simp only [List.append_assoc, List.cons_append, List.nil_append]
      obtain ⟨ai, hai⟩ : ∃ k, a + i = k := ⟨_, rfl⟩
      obtain ⟨bi, hbi⟩ : ∃ k, b + i = k := ⟨_, rfl⟩
      have hKi := HK2.out
      rw [hd] at hKi
      obtain ⟨c1, c2, f1, f2, c3, hK3⟩ := hKi.swapS (i := ai) (j := bi) (by omega) (by rw [List.length_append, List.length_take]; omega) (by simp only [List.length_append, List.length_take, List.length_drop]; omega)
      rw [← he] at hK3
      unfold sv at c1 c2 c3 hK3
      have K3 := Lib.hid hK3
      have j1 : (i : Int) < (c : Int) := by omega
      have w1 : IntKind.i64.wrap ((a : Int) + (i : Int)) = (ai : Int) := by rw [IntWalk.i64_in _ (by omega)]; omega
      have w2 : IntKind.i64.wrap ((b : Int) + (i : Int)) = (bi : Int) := by rw [IntWalk.i64_in _ (by omega)]; omega
      have b1 : (ai : Int) < (n : Int) := by omega
      have b2 : (bi : Int) < (n : Int) := by omega
      have hic : i ≤ 4611686018427387904 := by omega
      clear h1 h2 h3 h4 hx hy hd he hKi hK3 HK2 hX hY hl ha hb hai hbi
      obtain ⟨sx, hsx⟩ : ∃ s, bs x = s := ⟨_, rfl⟩
      obtain ⟨sy, hsy⟩ : ∃ s, bs y = s := ⟨_, rfl⟩
      rw [hsx] at c1
      rw [hsy] at c2 c3
      rw [hsx, hsy] at K3
      clear hsx hsy
      have mixed : Tryd.prog.follows Departure.mixedOrders = true := by kernel_rfl
      go_upto_region 3 with fail
      go_big_region_o
      go_wp2_with fail
      go_roundw
      case rel => exact ⟨i + 1, by omega, by go_num, K3.out.drew⟩
      case measure => simp [intOf]; omega
    · obtain rfl : i = c := by omega
      go_wp2
      go_end0
      have hf := HK2.out
      rw [List.take_of_length_le (by omega), List.take_of_length_le (by omega), List.drop_eq_nil_of_le (by omega), List.drop_eq_nil_of_le (by omega), List.append_nil, List.append_nil] at hf
      exact ⟨rfl, hf⟩
end Go.Proofs.YtkfgonbopgdmgaaDoor.Px
