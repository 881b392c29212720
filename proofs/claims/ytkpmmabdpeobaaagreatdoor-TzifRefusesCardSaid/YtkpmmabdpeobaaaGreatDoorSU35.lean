/- The library's stable sort at strings: rotation of rows. Stable sorting, plain: the insertion sort of a block; rows of sorted blocks. No program in sight. The library's stable sort at strings: the comparison by lengths; the insertion sort of a part. The library's stable sort at strings: merging where one of the two rows has one string. The library's stable sort at strings: merging where the second row has one string. The library's stable sort at strings: merging in general. The library's stable sort at strings: symMerge, and the whole sort. -/
import Derived.Test.YtkpmmabdpeobaaaGreatDoorSU33
import Derived.Sort.WalkA
import Derived.Test.YtkpmmabdpeobaaaGreatDoorSU32
import Derived.Laws.EntriesVeiled
namespace Go.Proofs.YtkpmmabdpeobaaaGreatDoor.Px
open Go.RowKit
open St
set_option maxHeartbeats 8000000 in
set_option maxRecDepth 100000 in
theorem rotate_any (P X Y Q : List (List UInt8)) (cv : Value) (g n cap a m b : Nat) (L : List (Nat × Obj)) (R : List Rw) (W w : World) (h : Kp L (rowS g n cap (P ++ X ++ Y ++ Q) :: R) W w)
 (ha : P.length = a) (hm : a + X.length = m) (hb : m + Y.length = b) (hX : 0 < X.length) (hY : 0 < Y.length) (hn : (P ++ X ++ Y ++ Q).length = n) (hb' : n ≤ 1000000000) :
 Calls Tryz.prog 217 #[.slice (some ⟨g, 0, none⟩) n cap, .int .i64 (a : Int), .int .i64 (m : Int), .int .i64 (b : Int), cv] w fun e w' => e = .returned (.tuple #[]) ∧ Kp L (rowS g n cap (P ++ Y ++ X ++ Q) :: R) W w' := by
 have HK := Lib.hid h
 obtain ⟨xl, hxl⟩ : ∃ k, X.length = k := ⟨_, rfl⟩
 obtain ⟨yl, hyl⟩ : ∃ k, Y.length = k := ⟨_, rfl⟩
 have hl : a + xl + yl + Q.length = n := by rw [← hn]; simp only [List.length_append]; omega
 have w1 : IntKind.i64.wrap ((m : Int) - (a : Int)) = (xl : Int) := by rw [IntWalk.i64_in _ (by omega)]; omega
 have w2 : IntKind.i64.wrap ((b : Int) - (m : Int)) = (yl : Int) := by rw [IntWalk.i64_in _ (by omega)]; omega
 have HF := Lib.hid (show P ++ Y ++ X ++ Q = P ++ Y ++ X ++ Q from rfl)
 have HS := Lib.hid (show 0 < xl ∧ 0 < yl ∧ a + xl = m ∧ m ≤ n by omega)
 have HX := Lib.hid hxl
 have HY := Lib.hid hyl
 have HA := Lib.hid ha
 have HN := Lib.hid hn
 clear h ha hm hb hX hY hn hl hxl hyl
 go_enter Tryz.func217, Tryz.ntmps217
 go_wp2_with fail
 go_loopw [10, 11] (fun v10 v11 wr => ∃ (P' U V Q' : List (List UInt8)) (i j : Nat), v10 = .int .i64 (i : Int) ∧ v11 = .int .i64 (j : Int) ∧ U.length = i ∧ V.length = j ∧ 0 < i ∧ 0 < j ∧ P'.length + i = m ∧ (P' ++ U ++ V ++ Q').length = n ∧ P' ++ V ++ U ++ Q' = P ++ Y ++ X ++ Q ∧ Kp L (rowS g n cap (P' ++ U ++ V ++ Q') :: R) W wr) (fun v10 v11 _ => (intOf v10).toNat + (intOf v11).toNat)
 case atStart => exact ⟨P, X, Y, Q, xl, yl, rfl, rfl, HX.out, HY.out, HS.out.1, HS.out.2.1, by rw [HA.out]; exact HS.out.2.2.1, HN.out, rfl, HK.out⟩
 case round =>
  obtain ⟨P', U, V, Q', i, j, rfl, rfl, hU, hV, hi, hj, hPm, hN, hF, hK⟩ := hrel
  clear HK
  have hml := HS.out.2.2.2
  have hl : P'.length + i + j + Q'.length = n := by rw [← hN]; simp only [List.length_append]; omega
  obtain ⟨mi, hmi⟩ : ∃ k, P'.length = k := ⟨_, rfl⟩
  have w3 : IntKind.i64.wrap ((m : Int) - (i : Int)) = (mi : Int) := by rw [IntWalk.i64_in _ (by omega)]; omega
  have HKK := Lib.hid hK
  have HFF := Lib.hid hF
  have HNN := Lib.hid hN
  have HU := Lib.hid hU
  have HV := Lib.hid hV
  have HM := Lib.hid hmi
  have HL := Lib.hid hl
  have hbd : i ≤ 1000000000 ∧ j ≤ 1000000000 := by omega
  obtain ⟨hbd1, hbd2⟩ := hbd
  have HP := Lib.hid hPm
  clear hK hF hN hU hV hmi hl hPm
  by_cases hij : i = j
  · subst hij
    go_wp2_with fail
    refine (swapRange_any P' U [] V Q' cv g n cap mi m i L R W _ (by rw [List.append_nil]; exact HKK.out) HM.out (by rw [HM.out]; have := HP.out; have := HM.out; simp; omega) HU.out HV.out (by rw [List.append_nil]; exact HNN.out) (by omega)).mono ?_
    rintro e V7 ⟨rfl, hk⟩
    rw [List.append_nil, HFF.out] at hk
    go_wp2
    go_end0
    exact ⟨rfl, hk⟩
  · have hijz : ¬ (i : Int) = (j : Int) := by omega
    by_cases hgt : j < i
    · have hgz : (j : Int) < (i : Int) := by omega
      obtain ⟨ij, hijd⟩ : ∃ k, i - j = k := ⟨_, rfl⟩
      have w4 : IntKind.i64.wrap ((i : Int) - (j : Int)) = (ij : Int) := by rw [IntWalk.i64_in _ (by omega)]; omega
      have hsp : U.take j ++ U.drop j = U := List.take_append_drop j U
      have hk0 : Kp L (rowS g n cap (P' ++ U.take j ++ U.drop j ++ V ++ Q') :: R) W wr := by rw [List.append_assoc P', hsp]; exact HKK.out
      have hn0 : (P' ++ U.take j ++ U.drop j ++ V ++ Q').length = n := by rw [List.append_assoc P', hsp]; exact HNN.out
      have HK0 := Lib.hid hk0
      have HN0 := Lib.hid hn0
      have HSp := Lib.hid hsp
      clear hk0 hn0 hsp
      go_wp2_with fail
      refine (swapRange_any P' (U.take j) (U.drop j) V Q' cv g n cap mi m j L R W _ HK0.out HM.out (by have h1 := HP.out; have h2 := HM.out; have h3 := HU.out; rw [List.length_drop]; omega) (by have h3 := HU.out; rw [List.length_take]; omega) HV.out HN0.out (by omega)).mono ?_
      rintro e V7 ⟨rfl, hk⟩
      have K7 := Lib.hid hk
      clear hk
      go_wp2_with fail
      go_roundw
      case rel =>
       have h1 := HP.out; have h2 := HM.out; have h3 := HU.out; have h4 := HV.out; have h5 := HNN.out
       refine ⟨P' ++ V, U.drop j, U.take j, Q', ij, j, rfl, rfl, by rw [List.length_drop]; omega, by rw [List.length_take]; omega, by omega, hj, by rw [List.length_append]; omega, ?_, ?_, ?_⟩
       · rw [← h5]; simp only [List.length_append, List.length_take, List.length_drop]; omega
       · rw [← HFF.out, List.append_assoc (P' ++ V), HSp.out]
       · exact K7.out
      case measure => simp [intOf]; omega
    · have hgz : ¬ (j : Int) < (i : Int) := by omega
      obtain ⟨ij, hijd⟩ : ∃ k, j - i = k := ⟨_, rfl⟩
      obtain ⟨mj, hmj⟩ : ∃ k, m + j = k := ⟨_, rfl⟩
      obtain ⟨mji, hmji⟩ : ∃ k, m + j - i = k := ⟨_, rfl⟩
      have w4 : IntKind.i64.wrap ((j : Int) - (i : Int)) = (ij : Int) := by rw [IntWalk.i64_in _ (by omega)]; omega
      have w5 : IntKind.i64.wrap ((m : Int) + (j : Int)) = (mj : Int) := by rw [IntWalk.i64_in _ (by omega)]; omega
      have w6 : IntKind.i64.wrap ((mj : Int) - (i : Int)) = (mji : Int) := by rw [IntWalk.i64_in _ (by omega)]; omega
      have hsp : V.take ij ++ V.drop ij = V := List.take_append_drop ij V
      have hk0 : Kp L (rowS g n cap (P' ++ U ++ V.take ij ++ V.drop ij ++ Q') :: R) W wr := by rw [List.append_assoc (P' ++ U), hsp]; exact HKK.out
      have hn0 : (P' ++ U ++ V.take ij ++ V.drop ij ++ Q').length = n := by rw [List.append_assoc (P' ++ U), hsp]; exact HNN.out
      have HK0 := Lib.hid hk0
      have HN0 := Lib.hid hn0
      have HSp := Lib.hid hsp
      clear hk0 hn0 hsp
      go_wp2_with fail
      refine (swapRange_any P' U (V.take ij) (V.drop ij) Q' cv g n cap mi mji i L R W _ HK0.out HM.out (by have h1 := HP.out; have h2 := HM.out; have h3 := HV.out; rw [List.length_take]; omega) HU.out (by have h3 := HV.out; rw [List.length_drop]; omega) HN0.out (by omega)).mono ?_
      rintro e V7 ⟨rfl, hk⟩
      have K7 := Lib.hid hk
      clear hk
      go_wp2_with fail
      go_roundw
      case rel =>
       have h1 := HP.out; have h2 := HM.out; have h3 := HU.out; have h4 := HV.out; have h5 := HNN.out
       refine ⟨P', V.drop ij, V.take ij, U ++ Q', i, ij, rfl, rfl, by rw [List.length_drop]; omega, by rw [List.length_take]; omega, hi, by omega, by omega, ?_, ?_, ?_⟩
       · rw [← h5]; simp only [List.length_append, List.length_take, List.length_drop]; omega
       · rw [← HFF.out, ← List.append_assoc, List.append_assoc P', HSp.out]
       · rw [← List.append_assoc]; exact K7.out
      case measure => simp [intOf]; omega
end Go.Proofs.YtkpmmabdpeobaaaGreatDoor.Px
namespace Go.Proofs.YtkpmmabdpeobaaaGreatDoor.St
open Go.Sort
section
variable {α : Type} {k : α → Int}
theorem Stb.snoc {D C E : List α} {x : α} (h : Stb k D C) (h2 : Stb k (C ++ [x]) E) : Stb k (D ++ [x]) E :=
 ⟨h2.sorted, fun r => by rw [h2.same, List.filter_append, List.filter_append, h.same]⟩
theorem Stb.app {D C D2 C2 E : List α} (h : Stb k D C) (h' : Stb k D2 C2) (h2 : Stb k (C ++ C2) E) : Stb k (D ++ D2) E :=
 ⟨h2.sorted, fun r => by rw [h2.same, List.filter_append, List.filter_append, h.same, h'.same]⟩
theorem stb_put {C1 C2 : List α} {x : α} (hC : (C1 ++ C2).Pairwise (fun x y => k x ≤ k y)) (h1 : ∀ z ∈ C1, k z ≤ k x) (h2 : ∀ z ∈ C2, k x < k z) : Stb k (C1 ++ C2 ++ [x]) (C1 ++ x :: C2) := by
 have e1 : (C1 ++ C2).take C1.length = C1 := by simp
 have e2 : (C1 ++ C2).drop C1.length = C2 := by simp
 have := stb_last (s := C1.length) (y := x) hC (by rw [e1]; exact h1) (by rw [e2]; exact h2)
 rwa [e1, e2] at this
variable [Inhabited α] {lt : α → α → Bool}
end
section
variable {α : Type} {k : α → Int}
inductive Bl (k : α → Int) (n : Nat) : List α → List α → Prop
 | last (D C : List α) : D.length ≤ n → Stb k D C → Bl k n D C
 | more (D C D2 C2 : List α) : D.length = n → Stb k D C → Bl k n D2 C2 → Bl k n (D ++ D2) (C ++ C2)
theorem Bl.len {n : Nat} {D C : List α} (h : Bl k n D C) : C.length = D.length := by
 induction h with
 | last D C _ h => exact h.len
 | more D C D2 C2 _ h _ ih => rw [List.length_append, List.length_append, h.len, ih]
inductive Fu (k : α → Int) (n : Nat) : List α → List α → Prop
 | none : Fu k n [] []
 | snoc (D C D2 C2 : List α) : Fu k n D C → D2.length = n → Stb k D2 C2 → Fu k n (D ++ D2) (C ++ C2)
theorem Fu.bl {n : Nat} {D C : List α} (h : Fu k n D C) : ∀ {D2 C2 : List α}, Bl k n D2 C2 → Bl k n (D ++ D2) (C ++ C2) := by
 induction h with
 | none => intro D2 C2 h2; simpa using h2
 | snoc D C D2 C2 _ hl hs ih =>
   intro D3 C3 h3
   have := ih (Bl.more D2 C2 D3 C3 hl hs h3)
   simpa using this
theorem Fu.len {n : Nat} {D C : List α} (h : Fu k n D C) : C.length = D.length := by
 induction h with
 | none => rfl
 | snoc D C D2 C2 _ _ h ih => rw [List.length_append, List.length_append, h.len, ih]
theorem Bl.one {n : Nat} {D C : List α} (h : Bl k n D C) (hn : D.length ≤ n) : Stb k D C := by
 cases h with
 | last _ _ _ h => exact h
 | more D C D2 C2 hl hs h2 =>
   rw [List.length_append] at hn
   have h3 : D2.length = 0 := by omega
   obtain rfl := List.length_eq_zero_iff.1 h3
   have h4 := h2.len
   obtain rfl := List.length_eq_zero_iff.1 (h4.trans h3)
   simpa using hs
theorem Bl.two {n : Nat} {D C : List α} (h : Bl k n D C) (h0 : 0 < n) (hn : 2 * n ≤ D.length) : ∃ D1 C1 D2 C2 D3 C3, D = D1 ++ (D2 ++ D3) ∧ C = C1 ++ (C2 ++ C3) ∧ D1.length = n ∧ D2.length = n ∧ Stb k D1 C1 ∧ Stb k D2 C2 ∧ Bl k n D3 C3 := by
 cases h with
 | last _ _ hl _ => omega
 | more D1 C1 D' C' hl hs h2 =>
   rw [List.length_append] at hn
   cases h2 with
   | last _ _ hl2 hs2 => exact ⟨D1, C1, D', C', [], [], by simp, by simp, hl, by omega, hs, hs2, Bl.last [] [] (Nat.zero_le _) Stb.nil⟩
   | more D2 C2 D3 C3 hl2 hs2 h3 => exact ⟨D1, C1, D2, C2, D3, C3, rfl, rfl, hl, hl2, hs, hs2, h3⟩
theorem Bl.rest {n : Nat} {D C : List α} (h : Bl k n D C) (hn : n < D.length) (h2n : D.length < 2 * n) : ∃ D1 C1 D2 C2, D = D1 ++ D2 ∧ C = C1 ++ C2 ∧ D1.length = n ∧ Stb k D1 C1 ∧ Stb k D2 C2 := by
 cases h with
 | last _ _ hl _ => omega
 | more D1 C1 D' C' hl hs h2 =>
   rw [List.length_append] at hn h2n
   exact ⟨D1, C1, D', C', rfl, rfl, hl, hs, h2.one (by omega)⟩
end
end Go.Proofs.YtkpmmabdpeobaaaGreatDoor.St
namespace Go.Proofs.YtkpmmabdpeobaaaGreatDoor.Px
open Go.RowKit
open St Po
theorem Kp.swapR {L : List (Nat × Obj)} {R : List Rw} {W X : World} {g n cap : Nat} {P M Q : List (List UInt8)} {x y : List UInt8} {i j : Nat} (h : Kp L (rowS g n cap (P ++ x :: (M ++ y :: Q)) :: R) W X) (hn : 0 < n) (hi : P.length = i) (hj : P.length + 1 + M.length = j) :
 X.cell? ⟨g, i, none⟩ = some (sv x) ∧ X.cell? ⟨g, j, none⟩ = some (sv y) ∧ X.frozen? ⟨g, i, none⟩ = false ∧ X.frozen? ⟨g, j, none⟩ = false ∧ (X.setCell ⟨g, j, none⟩ (sv x)).cell? ⟨g, i, none⟩ = some (sv x) ∧
  Kp L (rowS g n cap (P ++ y :: (M ++ x :: Q)) :: R) W ((X.setCell ⟨g, j, none⟩ (sv x)).setCell ⟨g, i, none⟩ (sv y)) := by
 obtain ⟨a1, a2, f1, f2, _, _⟩ := h.swapS hn hi hj
 have h1 := h.put hn j (sv x)
 have h2 := h1.put hn i (sv y)
 have hr := rows_swap (Q := Q) (x := x) (y := y) (M := M) hi hj
 rw [List.set_comm _ _ (by omega)] at hr
 refine ⟨a1, a2, f1, f2, own_cell (h1.row 0 rfl) ?_, ?_⟩
 · rw [List.getElem?_set_ne (by omega)]
   exact rows_at (x := x) (Q := M ++ y :: Q) hi
 · rw [hr] at h2
   exact h2
def cfL (x y : List UInt8) : Int := if y.length < x.length then -1 else if x.length < y.length then 1 else 0
theorem cfL_neg (x y : List UInt8) : cfL x y < 0 ↔ rk x < rk y := by
 unfold cfL rk
 split
 · omega
 · split <;> omega
theorem isNaN_any (x : Int) (w : World) : Calls Tryz.prog 130 #[.int .i64 x] w fun e w' => e = .returned (.bool false) ∧ w' = w := by
 go_enter Tryz.func130, Tryz.ntmps130
 go_wp2
 go_ret
 exact ⟨rfl, rfl⟩
theorem compare_any (x y : Int) (w : World) : Calls Tryz.prog 85 #[.int .i64 x, .int .i64 y] w fun e w' => e = .returned (.int .i64 (if x < y then -1 else if y < x then 1 else 0)) ∧ w' = w := by
 have CN := Lib.hid (fun x w => isNaN_any x w)
 go_enter Tryz.func85, Tryz.ntmps85
 by_cases h1 : x < y
 · rw [if_pos h1]
   go_wp2_with (go_at_call 130; refine (CN.out _ _).mono ?_; rintro e w' ⟨rfl, rfl⟩)
   go_ret
   exact ⟨rfl, rfl⟩
 · rw [if_neg h1]
   by_cases h2 : y < x
   · rw [if_pos h2]
     go_wp2_with (go_at_call 130; refine (CN.out _ _).mono ?_; rintro e w' ⟨rfl, rfl⟩)
     go_ret
     exact ⟨rfl, rfl⟩
   · rw [if_neg h2]
     go_wp2_with (go_at_call 130; refine (CN.out _ _).mono ?_; rintro e w' ⟨rfl, rfl⟩)
     go_ret
     exact ⟨rfl, rfl⟩
theorem cmp39_any (x y : List UInt8) (w : World) : Calls Tryz.prog 84 #[.string (bs x), .string (bs y)] w fun e w' => e = .returned (.int .i64 (cfL x y)) ∧ w' = w := by
 have CC := Lib.hid (compare_any (y.length : Int) (x.length : Int))
 have hc : cfL x y = if (y.length : Int) < (x.length : Int) then -1 else if (x.length : Int) < (y.length : Int) then 1 else 0 := by
  unfold cfL
  simp only [Int.ofNat_lt]
 rw [← hc] at CC
 obtain ⟨r, hr⟩ : ∃ r, cfL x y = r := ⟨_, rfl⟩
 rw [hr] at CC ⊢
 have e1 : (bs x).size = x.length := rfl
 have e2 : (bs y).size = y.length := rfl
 rw [← e1, ← e2] at CC
 obtain ⟨sx, hsx⟩ : ∃ s, bs x = s := ⟨_, rfl⟩
 obtain ⟨sy, hsy⟩ : ∃ s, bs y = s := ⟨_, rfl⟩
 rw [hsx, hsy] at CC ⊢
 clear hc hr e1 e2 hsx hsy
 go_enter Tryz.func84, Tryz.ntmps84
 go_wp2_with (go_at_call 85; refine (CC.out _).mono ?_; rintro e w' ⟨rfl, rfl⟩)
 go_ret
 exact ⟨rfl, rfl⟩
def cmpV : Value := .func (.func 84) #[] #[]
set_option maxHeartbeats 8000000 in
set_option maxRecDepth 100000 in
theorem insertion_any (P D Q : List (List UInt8)) (g n cap a b : Nat) (L : List (Nat × Obj)) (R : List Rw) (W w : World) (h : Kp L (rowS g n cap (P ++ D ++ Q) :: R) W w)
 (ha : P.length = a) (hb : a + D.length = b) (hn : (P ++ D ++ Q).length = n) (hb' : n ≤ 1000000000) :
 Calls Tryz.prog 200 #[.slice (some ⟨g, 0, none⟩) n cap, .int .i64 (a : Int), .int .i64 (b : Int), cmpV] w fun e w' => e = .returned (.tuple #[]) ∧ ∃ C, Stb rk D C ∧ Kp L (rowS g n cap (P ++ C ++ Q) :: R) W w' := by
 have HK := Lib.hid h
 have hl : a + D.length + Q.length = n := by rw [← hn]; simp only [List.length_append]; omega
 have w1 : IntKind.i64.wrap ((a : Int) + 1) = (a : Int) + 1 := IntWalk.i64_in _ (by omega)
 have hab : a ≤ b ∧ b ≤ 1000000000 := by omega
 obtain ⟨hab, hbb⟩ := hab
 have mixed : Tryz.prog.follows Departure.mixedOrders = true := by kernel_rfl
 have CC := Lib.hid (fun x y w => cmp39_any x y w)
 unfold cmpV
 by_cases hD : D = []
 · have hba : b = a := by rw [← hb, hD]; simp
   subst hba
   clear h ha hn hl CC
   go_enter Tryz.func200, Tryz.ntmps200
   go_wp2
   refine wp_loop_rounds 1 ?_
   rw [rounds_succ]
   go_wp2
   go_end0
   exact ⟨rfl, [], by rw [hD]; exact Stb.nil, by rw [hD] at HK; exact HK.out⟩
 · obtain ⟨x0, D0, rfl⟩ := List.exists_cons_of_ne_nil hD
   have HL := Lib.hid (And.intro ha (And.intro hb (And.intro hn hl)))
   have hst : Kp L (rowS g n cap (P ++ [x0] ++ (D0 ++ Q)) :: R) W w := by simpa using HK.out
   have HST := Lib.hid hst
   clear h ha hb hn hl HK hst hD
   go_enter Tryz.func200, Tryz.ntmps200
   go_wp2
   go_loopw [8] (fun v8 wr => ∃ (D1 E C : List (List UInt8)) (i : Nat), v8 = .int .i64 (i : Int) ∧ x0 :: D0 = D1 ++ E ∧ a + D1.length = i ∧ 0 < D1.length ∧ Stb rk D1 C ∧ Kp L (rowS g n cap (P ++ C ++ (E ++ Q)) :: R) W wr) (fun v8 _ => b - (intOf v8).toNat)
   case atStart => exact ⟨[x0], D0, [x0], a + 1, by simp, rfl, rfl, by simp, Stb.self (List.pairwise_singleton _ _), HST.out⟩
   case round =>
    obtain ⟨D1, E, C, i, rfl, hD, hi, hD1, hS, hK⟩ := hrel
    clear HST
    obtain ⟨ha, hb, hn, hl⟩ := HL.out
    rw [List.length_cons] at hb hl
    have hlen : D1.length + E.length = D0.length + 1 := by have := congrArg List.length hD; simpa using this.symm
    have hCl := hS.len
    by_cases hib : i < b
    · obtain ⟨x, E', rfl⟩ : ∃ x E', E = x :: E' := List.exists_cons_of_ne_nil (by intro e; rw [e] at hlen; simp at hlen; omega)
      have hin : i < n := by omega
      have hbn : n ≤ 1000000000 := hb'
      have j1 : (i : Int) < (b : Int) := by omega
      have HS := Lib.hid hS
      have HI := Lib.hid (And.intro hi (And.intro hD1 (And.intro hCl hin)))
      have HD := Lib.hid hD
      have HKK := Lib.hid (show Kp L (rowS g n cap (P ++ C ++ x :: ([] ++ (E' ++ Q))) :: R) W wr by simpa using hK)
      have hCi : a + C.length = i := by omega
      have HCi := Lib.hid hCi
      have HA := Lib.hid ha
      clear hS hi hD1 hCl hD hK ha hb hn hl hlen hib hCi
      -- the end of the inner loop
      have fin : ∀ (C1 C2 : List (List UInt8)) (X : World), C = C1 ++ C2 → (∀ z ∈ C1, rk z ≤ rk x) → (∀ z ∈ C2, rk x < rk z) → Kp L (rowS g n cap (P ++ C1 ++ x :: (C2 ++ (E' ++ Q))) :: R) W X →
       ∃ (D1 E C : List (List UInt8)) (i' : Nat), Value.int .i64 ((i + 1 : Nat) : Int) = .int .i64 (i' : Int) ∧ x0 :: D0 = D1 ++ E ∧ a + D1.length = i' ∧ 0 < D1.length ∧ Stb rk D1 C ∧ Kp L (rowS g n cap (P ++ C ++ (E ++ Q)) :: R) W X := by
       intro C1 C2 X hC h1 h2 hK
       refine ⟨D1 ++ [x], E', C1 ++ x :: C2, i + 1, rfl, by rw [HD.out]; simp, by rw [List.length_append]; have := HI.out.1; simp; omega, by simp, HS.out.snoc (by rw [hC]; exact stb_put (by rw [← hC]; exact HS.out.sorted) h1 h2), ?_⟩
       simpa using hK
      have FIN := Lib.hid fin
      clear fin
      have hsort := HS.out.sorted
      have HSo := Lib.hid hsort
      clear hsort
      go_wp2_with fail
      go_loopw [9] (fun v9 wr2 => ∃ (C1 C2 : List (List UInt8)) (j : Nat), v9 = .int .i64 (j : Int) ∧ C = C1 ++ C2 ∧ a + C1.length = j ∧ j ≤ i ∧ (∀ z ∈ C2, rk x < rk z) ∧ Kp L (rowS g n cap (P ++ C1 ++ x :: (C2 ++ (E' ++ Q))) :: R) W wr2) (fun v9 _ => (intOf v9).toNat)
      case atStart => exact ⟨C, [], i, rfl, by simp, HCi.out, by omega, (fun z hz => by cases hz), HKK.out⟩
      case round =>
       obtain ⟨C1, C2, j, rfl, hC, hj, hji, hC2, hK2⟩ := hrel
       clear HKK
       by_cases hja : a < j
       · obtain ⟨C1', c, rfl⟩ : ∃ C1' c, C1 = C1' ++ [c] := ⟨C1.dropLast, C1.getLast (by intro e; rw [e] at hj; simp at hj; omega), (List.dropLast_concat_getLast _).symm⟩
         obtain ⟨jp, hjp⟩ : ∃ q, j - 1 = q := ⟨_, rfl⟩
         have j2 : (a : Int) < (j : Int) := by omega
         have w2 : IntKind.i64.wrap ((j : Int) - 1) = (jp : Int) := by rw [IntWalk.i64_in _ (by omega)]; omega
         have b1 : (j : Int) < (n : Int) := by omega
         have b2 : (jp : Int) < (n : Int) := by omega
         rw [List.length_append, List.length_singleton] at hj
         have hK3 : Kp L (rowS g n cap ((P ++ C1') ++ c :: ([] ++ x :: (C2 ++ (E' ++ Q)))) :: R) W wr := by simpa using hK2
         have l1 : (P ++ C1').length = jp := by rw [List.length_append, HA.out]; omega
         have l2 : (P ++ C1').length + 1 + ([] : List (List UInt8)).length = j := by rw [l1]; simp; omega
         have sw := fun (X : World) (h : Kp L (rowS g n cap ((P ++ C1') ++ c :: ([] ++ x :: (C2 ++ (E' ++ Q)))) :: R) W X) => h.swapR (by omega) l1 l2
         obtain ⟨c1, c2, f1, f2, c3, _⟩ := sw wr hK3
         unfold sv at c1 c2 c3
         obtain ⟨r, hr⟩ : ∃ r, cfL x c = r := ⟨_, rfl⟩
         have CX := Lib.hid (fun w => CC.out x c w)
         rw [hr] at CX
         have hneg := cfL_neg x c
         rw [hr] at hneg
         have HSw := Lib.hid sw
         have HK3 := Lib.hid hK3
         have HC := Lib.hid hC
         have HC2 := Lib.hid hC2
         have HJ := Lib.hid hj
         have HJp := Lib.hid hjp
         have hjb : j ≤ 1000000000 := by omega
         have hj0 : 0 < j := by omega
         clear hK2 hK3 sw l1 l2 c3 f1 f2 hC hC2 hr hj hjp
         obtain ⟨sx, hsx⟩ : ∃ s, bs x = s := ⟨_, rfl⟩
         obtain ⟨sc, hsc⟩ : ∃ s, bs c = s := ⟨_, rfl⟩
         rw [hsx] at c2 CX
         rw [hsc] at c1 CX
         have HSx := Lib.hid hsx
         have HSc := Lib.hid hsc
         clear hsx hsc
         by_cases hlt : rk x < rk c
         · have hv : r < 0 := hneg.2 hlt
           have hd : decide (r < 0) = true := decide_eq_true hv
           clear hneg
           go_upto_region 4 with fail
           go_quiet ((go_at_call 84; exact Calls.quiet_of_same (CX.out _)))
           have hkd := HK3.out.call (below_drewN (Below.refl _ wr) nq) rfl rfl rfl rfl
           obtain ⟨w3, hw3⟩ : ∃ z, wr.drewN nq = z := ⟨_, rfl⟩
           rw [hw3] at hkd ⊢
           clear hw3 c1 c2
           obtain ⟨c1, c2, f1, f2, c3, hk4⟩ := HSw.out w3 hkd
           unfold sv at c1 c2 c3 hk4
           rw [HSc.out] at c1 c3 hk4
           rw [HSx.out] at c2 hk4
           have K4 := Lib.hid hk4
           clear hk4 hkd
           go_upto_region 6 with fail
           go_big_region_o
           go_wp2_with fail
           go_roundw
           case rel =>
            refine ⟨C1', c :: C2, jp, rfl, by rw [HC.out]; simp, by have := HJ.out; have := HJp.out; omega, by have := HJp.out; omega, fun z hz => ?_, by simpa using K4.out.drew⟩
            rcases List.mem_cons.1 hz with rfl | hz
            · exact hlt
            · exact HC2.out z hz
           case measure => have := HJp.out; simp [intOf]; omega
         · have hv : ¬ r < 0 := fun q => hlt (hneg.1 q)
           have hd : decide (r < 0) = false := decide_eq_false hv
           clear hneg
           go_upto_region 4 with fail
           go_quiet ((go_at_call 84; exact Calls.quiet_of_same (CX.out _)))
           go_wp2_with fail
           go_roundw
           case rel =>
            have hs2 := HSo.out
            rw [HC.out] at hs2
            have hs3 := (List.pairwise_append.1 hs2).1
            refine FIN.out (C1' ++ [c]) C2 _ HC.out (fun z hz => ?_) HC2.out ?_
            · rcases List.mem_append.1 hz with hz | hz
              · have := (List.pairwise_append.1 hs3).2.2 z hz c (List.mem_singleton.2 rfl)
                omega
              · rw [List.mem_singleton] at hz
                rw [hz]
                omega
            · simpa using HK3.out.call (below_drewN (Below.refl _ wr) nq) rfl rfl rfl rfl
           case measure => simp [intOf]; omega
       · obtain rfl : j = a := by omega
         obtain rfl : C1 = [] := List.length_eq_zero_iff.1 (by omega)
         have j2 : ¬ (j : Int) < (j : Int) := by omega
         have HC := Lib.hid hC
         have HC2 := Lib.hid hC2
         have HK3 := Lib.hid hK2
         have hjb : j ≤ 1000000000 := by omega
         clear hK2 hC hC2
         go_upto_region 4 with fail
         go_quiet (fail)
         go_wp2_with fail
         go_roundw
         case rel => exact FIN.out [] C2 _ HC.out (fun z hz => by cases hz) HC2.out (HK3.out.call (below_drewN (Below.refl _ wr) nq) rfl rfl rfl rfl)
         case measure => simp [intOf]; omega
    · have j1 : ¬ (i : Int) < (b : Int) := by omega
      have hE : E = [] := List.length_eq_zero_iff.1 (by omega)
      have HS := Lib.hid hS
      have HK := Lib.hid hK
      clear hS hK
      go_wp2
      go_end0
      refine ⟨rfl, C, ?_, ?_⟩
      · first | exact HS.out | (rw [hD, hE, List.append_nil]; exact HS.out)
      · have := HK.out
        rw [hE] at this
        simpa using this
end Go.Proofs.YtkpmmabdpeobaaaGreatDoor.Px
namespace Go.Proofs.YtkpmmabdpeobaaaGreatDoor.Px
open Go.RowKit
open St Po
theorem take_le {B : List (List UInt8)} {x : List UInt8} {c i : Nat} {y : List UInt8} (hB : B.Pairwise (fun x y => rk x ≤ rk y)) (hc : B[c]? = some y) (hy : rk y < rk x) (hi : i = c + 1) : ∀ z ∈ B.take i, rk z < rk x := by
 subst hi
 intro z hz
 have := le_take hB (s := c + 1) (by omega) (by simpa using hc) z hz
 omega
theorem drop_le {B : List (List UInt8)} {x : List UInt8} {c i : Nat} {y : List UInt8} (hB : B.Pairwise (fun x y => rk x ≤ rk y)) (hc : B[c]? = some y) (hy : rk x ≤ rk y) (hi : i = c) : ∀ z ∈ B.drop i, rk x ≤ rk z := by
 subst hi
 intro z hz
 have := le_drop hB hc z hz
 omega
set_option maxHeartbeats 16000000 in
set_option maxRecDepth 100000 in
theorem symFirst_any (P B Q : List (List UInt8)) (x : List UInt8) (g n cap a m b : Nat) (L : List (Nat × Obj)) (R : List Rw) (W w : World) (h : Kp L (rowS g n cap (P ++ [x] ++ B ++ Q) :: R) W w)
 (ha : P.length = a) (hm : a + 1 = m) (hb : m + B.length = b) (hs : B.Pairwise (fun x y => rk x ≤ rk y)) (hn : (P ++ [x] ++ B ++ Q).length = n) (hb' : n ≤ 1000000000) :
 Calls Tryz.prog 201 #[.slice (some ⟨g, 0, none⟩) n cap, .int .i64 (a : Int), .int .i64 (m : Int), .int .i64 (b : Int), cmpV] w fun e w' => e = .returned (.tuple #[]) ∧ ∃ C, Stb rk ([x] ++ B) C ∧ Kp L (rowS g n cap (P ++ C ++ Q) :: R) W w' := by
 have HK := Lib.hid h
 have hl : a + 1 + B.length + Q.length = n := by rw [← hn]; simp only [List.length_append, List.length_singleton]; omega
 have mixed : Tryz.prog.follows Departure.mixedOrders = true := by kernel_rfl
 have CC := Lib.hid (fun x y w => cmp39_any x y w)
 unfold cmpV
 have w0 : IntKind.i64.wrap ((m : Int) - (a : Int)) = 1 := by rw [IntWalk.i64_in _ (by omega)]; omega
 have hbn : b ≤ n := by omega
 have hmb : m ≤ b := by omega
 have HL := Lib.hid (And.intro ha (And.intro hm (And.intro hb hl)))
 have HS := Lib.hid hs
 have hax : P.length = a := ha
 have hcx : ((P ++ [x] ++ B ++ Q).map sv)[a]? = some (sv x) := by
  have := rows_at (P := P) (x := x) (Q := B ++ Q) ha
  simpa using this
 have HCX := Lib.hid hcx
 have HB := Lib.hid (fun (c : Nat) (y : List UInt8) (hc : B[c]? = some y) => show ((P ++ [x] ++ B ++ Q).map sv)[m + c]? = some (sv y) by
  have hlt : c < B.length := (List.getElem?_eq_some_iff.1 hc).1
  have e : (P ++ [x] ++ B ++ Q)[m + c]? = some y := by
   rw [List.append_assoc, List.getElem?_append_right (by simp; omega), List.getElem?_append_left (by simp; omega)]
   simp only [List.length_append, List.length_singleton]
   rw [show m + c - (P.length + 1) = c by omega, hc]
  rw [List.getElem?_map, e]
  rfl)
 clear h ha hb hs hn hl hax hcx
 go_enter Tryz.func201, Tryz.ntmps201
 go_wp2_with fail
 go_loopw [10, 11, 12] (fun v10 v11 _ wr => ∃ i j : Nat, v10 = .int .i64 (i : Int) ∧ v11 = .int .i64 (j : Int) ∧ m ≤ i ∧ i ≤ j ∧ j ≤ b ∧ (∀ z ∈ B.take (i - m), rk z < rk x) ∧ (∀ z ∈ B.drop (j - m), rk x ≤ rk z) ∧ Kp L (rowS g n cap (P ++ [x] ++ B ++ Q) :: R) W wr) (fun v10 v11 _ _ => (intOf v11).toNat - (intOf v10).toNat)
 case atStart =>
  refine ⟨m, b, rfl, rfl, Nat.le_refl _, hmb, Nat.le_refl _, (fun z hz => by rw [Nat.sub_self] at hz; cases hz), (fun z hz => ?_), HK.out⟩
  rw [List.drop_eq_nil_of_le (by have := HL.out.2.2.1; omega)] at hz
  cases hz
 case round =>
  obtain ⟨i, j, rfl, rfl, hmi, hij, hjb, h1, h2, hK⟩ := hrel
  clear HK
  have HKK := Lib.hid hK
  have H1 := Lib.hid h1
  have H2 := Lib.hid h2
  clear hK h1 h2
  by_cases hlt : i < j
  · have j1 : (i : Int) < (j : Int) := by omega
    obtain ⟨c, hc⟩ : ∃ c, (i + j) / 2 = c := ⟨_, rfl⟩
    have w1 : IntKind.i64.wrap ((i : Int) + (j : Int)) = (i : Int) + (j : Int) := IntWalk.i64_in _ (by omega)
    have w2 : ((i : Int) + (j : Int)) / 2 = (c : Int) := by omega
    have hci : i ≤ c ∧ c < j := by omega
    obtain ⟨hci, hcj⟩ := hci
    have b1 : (c : Int) < (n : Int) := by omega
    have b2 : (a : Int) < (n : Int) := by omega
    obtain ⟨y, hy⟩ : ∃ y, B[c - m]? = some y := ⟨_, List.getElem?_eq_getElem (by have := HL.out.2.2.1; omega)⟩
    have c1 : wr.cell? ⟨g, c, none⟩ = some (sv y) := own_cell (HKK.out.row 0 rfl) (by have := HB.out (c - m) y hy; rwa [show m + (c - m) = c by omega] at this)
    have c2 : wr.cell? ⟨g, a, none⟩ = some (sv x) := own_cell (HKK.out.row 0 rfl) HCX.out
    unfold sv at c1 c2
    obtain ⟨r, hr⟩ : ∃ r, cfL y x = r := ⟨_, rfl⟩
    have CX := Lib.hid (fun w => CC.out y x w)
    rw [hr] at CX
    have hneg := cfL_neg y x
    rw [hr] at hneg
    obtain ⟨sx, hsx⟩ : ∃ s, bs x = s := ⟨_, rfl⟩
    obtain ⟨sy, hsy⟩ : ∃ s, bs y = s := ⟨_, rfl⟩
    rw [hsx] at c2 CX
    rw [hsy] at c1 CX
    have HY := Lib.hid hy
    have HC := Lib.hid hc
    clear hsx hsy hr hy hc
    have hib : i ≤ 1000000000 ∧ j ≤ 1000000000 := by omega
    obtain ⟨hib, hjb2⟩ := hib
    by_cases hyx : rk y < rk x
    · have hv : r < 0 := hneg.2 hyx
      have hd : decide (r < 0) = true := decide_eq_true hv
      clear hneg
      go_upto_region 5 with fail
      go_quiet ((go_at_call 84; exact Calls.quiet_of_same (CX.out _)))
      go_wp2_with fail
      go_roundw
      case rel => exact ⟨c + 1, j, by simp, rfl, by omega, by omega, hjb, take_le HS.out HY.out hyx (by omega), H2.out, HKK.out.call (below_drewN (Below.refl _ wr) nq) rfl rfl rfl rfl⟩
      case measure => simp [intOf]; omega
    · have hv : ¬ r < 0 := fun q => hyx (hneg.1 q)
      have hd : decide (r < 0) = false := decide_eq_false hv
      clear hneg
      go_upto_region 5 with fail
      go_quiet ((go_at_call 84; exact Calls.quiet_of_same (CX.out _)))
      go_wp2_with fail
      go_roundw
      case rel => exact ⟨i, c, rfl, rfl, hmi, hci, by omega, H1.out, drop_le HS.out HY.out (by omega) rfl, HKK.out.call (below_drewN (Below.refl _ wr) nq) rfl rfl rfl rfl⟩
      case measure => simp [intOf]; omega
  · obtain rfl : i = j := by omega
    have j1 : ¬ (i : Int) < (i : Int) := by omega
    obtain ⟨i1, hi1⟩ : ∃ k, i - 1 = k := ⟨_, rfl⟩
    obtain ⟨s, hs1⟩ : ∃ k, i - m = k := ⟨_, rfl⟩
    have w3 : IntKind.i64.wrap ((i : Int) - 1) = (i1 : Int) := by rw [IntWalk.i64_in _ (by omega)]; omega
    have H1' := H1.out
    have H2' := H2.out
    rw [hs1] at H1' H2'
    have HST := Lib.hid (stb_first (k := rk) HS.out H1' H2')
    have hsB : s ≤ B.length := by have := HL.out.2.2.1; omega
    have his : a + s = i1 := by omega
    have HK0 := Lib.hid (show Kp L (rowS g n cap (P ++ (B.take 0 ++ x :: B.drop 0) ++ Q) :: R) W wr by simpa using HKK.out)
    have hi1b : i1 ≤ 1000000000 := by omega
    have hi1n : i1 < n := by have := HL.out.2.2.2; omega
    have HSB := Lib.hid hsB
    clear H1' H2' hs1 hi1 H1 H2 HKK hsB
    go_wp2_with fail
    go_loopw [13] (fun v13 wr => ∃ k t : Nat, v13 = .int .i64 (k : Int) ∧ a + t = k ∧ t ≤ s ∧ Kp L (rowS g n cap (P ++ (B.take t ++ x :: B.drop t) ++ Q) :: R) W wr) (fun v13 _ => i1 - (intOf v13).toNat)
    case atStart => exact ⟨a, 0, rfl, rfl, by omega, HK0.out⟩
    case round =>
     obtain ⟨k, t, rfl, hk, ht, hK⟩ := hrel
     clear HK0
     by_cases hlt2 : k < i1
     · have j3 : (k : Int) < (i1 : Int) := by omega
       obtain ⟨kp, hkp⟩ : ∃ q, k + 1 = q := ⟨_, rfl⟩
       have w4 : IntKind.i64.wrap ((k : Int) + 1) = (kp : Int) := by rw [IntWalk.i64_in _ (by omega)]; omega
       have b1 : (k : Int) < (n : Int) := by omega
       have b2 : (kp : Int) < (n : Int) := by omega
       have hbl := HSB.out
       obtain ⟨y, hy⟩ : ∃ y, B[t]'(by omega) = y := ⟨_, rfl⟩
       have h1 : B.drop t = y :: B.drop (t + 1) := by rw [← hy]; exact List.drop_eq_getElem_cons (by omega)
       have h3 : B.take (t + 1) = B.take t ++ [y] := by rw [← hy]; exact List.take_succ_eq_append_getElem (by omega)
       have hd : P ++ (B.take t ++ x :: B.drop t) ++ Q = (P ++ B.take t) ++ x :: ([] ++ y :: (B.drop (t + 1) ++ Q)) := by rw [h1]; simp only [List.append_assoc, List.cons_append, List.nil_append]
       have he : P ++ (B.take (t + 1) ++ x :: B.drop (t + 1)) ++ Q = (P ++ B.take t) ++ y :: ([] ++ x :: (B.drop (t + 1) ++ Q)) := by rw [h3]; simp only [List.append_assoc, List.cons_append, List.nil_append]
       rw [hd] at hK
       obtain ⟨c1, c2, f1, f2, c3, hK3⟩ := hK.swapS (i := k) (j := kp) (by omega) (by rw [List.length_append, List.length_take]; have := HL.out.1; omega) (by simp only [List.length_append, List.length_take, List.length_nil]; have := HL.out.1; omega)
       rw [← he] at hK3
       unfold sv at c1 c2 c3 hK3
       have K3 := Lib.hid hK3
       have HKp := Lib.hid hkp
       clear h1 h3 hd he hK hK3 hy hkp
       obtain ⟨sx, hsx⟩ : ∃ s, bs x = s := ⟨_, rfl⟩
       obtain ⟨sy, hsy⟩ : ∃ s, bs y = s := ⟨_, rfl⟩
       rw [hsx] at c1
       rw [hsy] at c2 c3
       rw [hsx, hsy] at K3
       clear hsx hsy
       go_upto_region 11 with fail
       go_big_region_o
       go_wp2_with fail
       go_roundw
       case rel => exact ⟨kp, t + 1, rfl, by have := HKp.out; omega, by omega, K3.out.drew⟩
       case measure => have := HKp.out; simp [intOf]; omega
     · have j3 : ¬ (k : Int) < (i1 : Int) := by omega
       obtain rfl : t = s := by omega
       have HK3 := Lib.hid hK
       clear hK
       go_wp2
       first
        | (go_end0; exact ⟨rfl, _, HST.out, by first | exact HK3.out | simpa using HK3.out⟩)
        | (go_ret; exact ⟨rfl, _, HST.out, by first | exact HK3.out | simpa using HK3.out⟩)
        | (refine bodyPost_ret (results_none rfl _ _ _) rfl ?_; exact ⟨rfl, _, HST.out, by first | exact HK3.out | simpa using HK3.out⟩)
end Go.Proofs.YtkpmmabdpeobaaaGreatDoor.Px
namespace Go.Proofs.YtkpmmabdpeobaaaGreatDoor.Px
open Go.RowKit
open St Po
theorem take_le2 {B : List (List UInt8)} {x : List UInt8} {c i : Nat} {y : List UInt8} (hB : B.Pairwise (fun x y => rk x ≤ rk y)) (hc : B[c]? = some y) (hy : rk y ≤ rk x) (hi : i = c + 1) : ∀ z ∈ B.take i, rk z ≤ rk x := by
 subst hi
 intro z hz
 have := le_take hB (s := c + 1) (by omega) (by simpa using hc) z hz
 omega
theorem drop_lt {B : List (List UInt8)} {x : List UInt8} {c i : Nat} {y : List UInt8} (hB : B.Pairwise (fun x y => rk x ≤ rk y)) (hc : B[c]? = some y) (hy : rk x < rk y) (hi : i = c) : ∀ z ∈ B.drop i, rk x < rk z := by
 subst hi
 intro z hz
 have := le_drop hB hc z hz
 omega
set_option maxHeartbeats 16000000 in
set_option maxRecDepth 100000 in
theorem symLast_any (P A Q : List (List UInt8)) (y : List UInt8) (g n cap a m b : Nat) (L : List (Nat × Obj)) (R : List Rw) (W w : World) (h : Kp L (rowS g n cap (P ++ A ++ [y] ++ Q) :: R) W w)
 (ha : P.length = a) (hm : a + A.length = m) (hb : m + 1 = b) (h2 : 2 ≤ A.length) (hs : A.Pairwise (fun x y => rk x ≤ rk y)) (hn : (P ++ A ++ [y] ++ Q).length = n) (hb' : n ≤ 1000000000) :
 Calls Tryz.prog 201 #[.slice (some ⟨g, 0, none⟩) n cap, .int .i64 (a : Int), .int .i64 (m : Int), .int .i64 (b : Int), cmpV] w fun e w' => e = .returned (.tuple #[]) ∧ ∃ C, Stb rk (A ++ [y]) C ∧ Kp L (rowS g n cap (P ++ C ++ Q) :: R) W w' := by
 have HK := Lib.hid h
 have hl : a + A.length + 1 + Q.length = n := by rw [← hn]; simp only [List.length_append, List.length_singleton]; omega
 have mixed : Tryz.prog.follows Departure.mixedOrders = true := by kernel_rfl
 have CC := Lib.hid (fun x y w => cmp39_any x y w)
 unfold cmpV
 obtain ⟨al, hal⟩ : ∃ k, A.length = k := ⟨_, rfl⟩
 have w0 : IntKind.i64.wrap ((m : Int) - (a : Int)) = (al : Int) := by rw [IntWalk.i64_in _ (by omega)]; omega
 have hne : ¬ (al : Int) = 1 := by omega
 have hneb : ((al : Int) == 1) = false := by simp; omega
 have w9 : IntKind.i64.wrap ((b : Int) - (m : Int)) = 1 := by rw [IntWalk.i64_in _ (by omega)]; omega
 have hmn : m < n := by omega
 have ham : a ≤ m := by omega
 have HL := Lib.hid (And.intro ha (And.intro hm (And.intro hal hl)))
 have HS := Lib.hid hs
 have hcy : ((P ++ A ++ [y] ++ Q).map sv)[m]? = some (sv y) := by
  have := rows_at (P := P ++ A) (x := y) (Q := Q) (i := m) (by rw [List.length_append]; omega)
  simpa using this
 have HCY := Lib.hid hcy
 have HB := Lib.hid (fun (c : Nat) (z : List UInt8) (hc : A[c]? = some z) => show ((P ++ A ++ [y] ++ Q).map sv)[a + c]? = some (sv z) by
  have hlt : c < A.length := (List.getElem?_eq_some_iff.1 hc).1
  have e : (P ++ A ++ [y] ++ Q)[a + c]? = some z := by
   rw [List.append_assoc, List.getElem?_append_left (by simp; omega), List.getElem?_append_right (by omega), show a + c - P.length = c by omega, hc]
  rw [List.getElem?_map, e]
  rfl)
 clear h ha hb hs hn hl hcy hal hm
 go_enter Tryz.func201, Tryz.ntmps201
 go_wp2_with fail
 go_loopw [14, 15, 16] (fun v14 v15 _ wr => ∃ i j : Nat, v14 = .int .i64 (i : Int) ∧ v15 = .int .i64 (j : Int) ∧ a ≤ i ∧ i ≤ j ∧ j ≤ m ∧ (∀ z ∈ A.take (i - a), rk z ≤ rk y) ∧ (∀ z ∈ A.drop (j - a), rk y < rk z) ∧ Kp L (rowS g n cap (P ++ A ++ [y] ++ Q) :: R) W wr) (fun v14 v15 _ _ => (intOf v15).toNat - (intOf v14).toNat)
 case atStart =>
  refine ⟨a, m, rfl, rfl, Nat.le_refl _, ham, Nat.le_refl _, (fun z hz => by rw [Nat.sub_self] at hz; cases hz), (fun z hz => ?_), HK.out⟩
  rw [List.drop_eq_nil_of_le (by have := HL.out.2.1; omega)] at hz
  cases hz
 case round =>
  obtain ⟨i, j, rfl, rfl, hmi, hij, hjb, h1, h2, hK⟩ := hrel
  clear HK
  have HKK := Lib.hid hK
  have H1 := Lib.hid h1
  have H2 := Lib.hid h2
  clear hK h1 h2
  by_cases hlt : i < j
  · have j1 : (i : Int) < (j : Int) := by omega
    obtain ⟨c, hc⟩ : ∃ c, (i + j) / 2 = c := ⟨_, rfl⟩
    have w1 : IntKind.i64.wrap ((i : Int) + (j : Int)) = (i : Int) + (j : Int) := IntWalk.i64_in _ (by omega)
    have w2 : ((i : Int) + (j : Int)) / 2 = (c : Int) := by omega
    have hci : i ≤ c ∧ c < j := by omega
    obtain ⟨hci, hcj⟩ := hci
    have b1 : (c : Int) < (n : Int) := by omega
    have b2 : (m : Int) < (n : Int) := by omega
    obtain ⟨z, hz⟩ : ∃ y, A[c - a]? = some y := ⟨_, List.getElem?_eq_getElem (by have := HL.out.2.1; omega)⟩
    have c1 : wr.cell? ⟨g, c, none⟩ = some (sv z) := own_cell (HKK.out.row 0 rfl) (by have := HB.out (c - a) z hz; rwa [show a + (c - a) = c by omega] at this)
    have c2 : wr.cell? ⟨g, m, none⟩ = some (sv y) := own_cell (HKK.out.row 0 rfl) HCY.out
    unfold sv at c1 c2
    obtain ⟨r, hr⟩ : ∃ r, cfL y z = r := ⟨_, rfl⟩
    have CX := Lib.hid (fun w => CC.out y z w)
    rw [hr] at CX
    have hneg := cfL_neg y z
    rw [hr] at hneg
    obtain ⟨sy, hsy⟩ : ∃ s, bs y = s := ⟨_, rfl⟩
    obtain ⟨sz, hsz⟩ : ∃ s, bs z = s := ⟨_, rfl⟩
    rw [hsy] at c2 CX
    rw [hsz] at c1 CX
    have HZ := Lib.hid hz
    have HC := Lib.hid hc
    clear hsy hsz hr hz hc
    have hib : i ≤ 1000000000 ∧ j ≤ 1000000000 := by omega
    obtain ⟨hib, hjb2⟩ := hib
    by_cases hyx : rk y < rk z
    · have hv : r < 0 := hneg.2 hyx
      have hd : decide (r < 0) = true := decide_eq_true hv
      clear hneg
      go_upto_region 17 with fail
      go_quiet ((go_at_call 84; exact Calls.quiet_of_same (CX.out _)))
      go_wp2_with fail
      go_roundw
      case rel => exact ⟨i, c, rfl, rfl, hmi, hci, by omega, H1.out, drop_lt HS.out HZ.out hyx rfl, HKK.out.call (below_drewN (Below.refl _ wr) nq) rfl rfl rfl rfl⟩
      case measure => simp [intOf]; omega
    · have hv : ¬ r < 0 := fun q => hyx (hneg.1 q)
      have hd : decide (r < 0) = false := decide_eq_false hv
      clear hneg
      go_upto_region 17 with fail
      go_quiet ((go_at_call 84; exact Calls.quiet_of_same (CX.out _)))
      go_wp2_with fail
      go_roundw
      case rel => exact ⟨c + 1, j, by simp, rfl, by omega, by omega, hjb, take_le2 HS.out HZ.out (by omega) (by omega), H2.out, HKK.out.call (below_drewN (Below.refl _ wr) nq) rfl rfl rfl rfl⟩
      case measure => simp [intOf]; omega
  · obtain rfl : i = j := by omega
    have j1 : ¬ (i : Int) < (i : Int) := by omega
    obtain ⟨s, hs1⟩ : ∃ k, i - a = k := ⟨_, rfl⟩
    have H1' := H1.out
    have H2' := H2.out
    rw [hs1] at H1' H2'
    have HST := Lib.hid (stb_last (k := rk) HS.out H1' H2')
    have hsB : s ≤ A.length := by have := HL.out.2.1; omega
    have his : a + s = i := by omega
    have HK0 := Lib.hid (show Kp L (rowS g n cap (P ++ (A.take A.length ++ y :: A.drop A.length) ++ Q) :: R) W wr by simpa using HKK.out)
    have HSB := Lib.hid hsB
    clear H1' H2' hs1 H1 H2 HKK hsB
    go_wp2_with fail
    go_loopw [17] (fun v17 wr => ∃ k t : Nat, v17 = .int .i64 (k : Int) ∧ a + t = k ∧ s ≤ t ∧ t ≤ A.length ∧ Kp L (rowS g n cap (P ++ (A.take t ++ y :: A.drop t) ++ Q) :: R) W wr) (fun v17 _ => (intOf v17).toNat)
    case atStart => exact ⟨m, A.length, rfl, HL.out.2.1, HSB.out, Nat.le_refl _, HK0.out⟩
    case round =>
     obtain ⟨k, t, rfl, hk, ht, htA, hK⟩ := hrel
     clear HK0
     by_cases hlt2 : i < k
     · have j3 : (i : Int) < (k : Int) := by omega
       obtain ⟨kp, hkp⟩ : ∃ q, k - 1 = q := ⟨_, rfl⟩
       obtain ⟨tp, htp⟩ : ∃ q, t - 1 = q := ⟨_, rfl⟩
       have hkn : k ≤ m := by have := HL.out.2.1; omega
       have w4 : IntKind.i64.wrap ((k : Int) - 1) = (kp : Int) := by rw [IntWalk.i64_in _ (by omega)]; omega
       have b1 : (k : Int) < (n : Int) := by omega
       have b2 : (kp : Int) < (n : Int) := by omega
       have e1 : t = tp + 1 := by omega
       subst e1
       obtain ⟨z, hz⟩ : ∃ y, A[tp]'(by omega) = y := ⟨_, rfl⟩
       have h1 : A.drop tp = z :: A.drop (tp + 1) := by rw [← hz]; exact List.drop_eq_getElem_cons (by omega)
       have h3 : A.take (tp + 1) = A.take tp ++ [z] := by rw [← hz]; exact List.take_succ_eq_append_getElem (by omega)
       have hd : P ++ (A.take (tp + 1) ++ y :: A.drop (tp + 1)) ++ Q = (P ++ A.take tp) ++ z :: ([] ++ y :: (A.drop (tp + 1) ++ Q)) := by rw [h3]; simp only [List.append_assoc, List.cons_append, List.nil_append]
       have he : P ++ (A.take tp ++ y :: A.drop tp) ++ Q = (P ++ A.take tp) ++ y :: ([] ++ z :: (A.drop (tp + 1) ++ Q)) := by rw [h1]; simp only [List.append_assoc, List.cons_append, List.nil_append]
       rw [hd] at hK
       obtain ⟨c1, c2, f1, f2, c3, hK3⟩ := hK.swapR (i := kp) (j := k) (by omega) (by rw [List.length_append, List.length_take]; have := HL.out.1; omega) (by simp only [List.length_append, List.length_take, List.length_nil]; have := HL.out.1; omega)
       rw [← he] at hK3
       unfold sv at c1 c2 c3 hK3
       have K3 := Lib.hid hK3
       have HKp := Lib.hid hkp
       clear h1 h3 hd he hK hK3 hz hkp htp
       obtain ⟨sz, hsz⟩ : ∃ s, bs z = s := ⟨_, rfl⟩
       obtain ⟨sy, hsy⟩ : ∃ s, bs y = s := ⟨_, rfl⟩
       rw [hsz] at c1 c3
       rw [hsy] at c2
       rw [hsz, hsy] at K3
       clear hsz hsy
       have hkb : k ≤ 1000000000 := by omega
       go_upto_region 23 with fail
       go_big_region_o
       go_wp2_with fail
       go_roundw
       case rel => exact ⟨kp, tp, rfl, by have := HKp.out; omega, by omega, by omega, K3.out.drew⟩
       case measure => have := HKp.out; simp [intOf]; omega
     · have j3 : ¬ (i : Int) < (k : Int) := by omega
       obtain rfl : t = s := by omega
       have HK3 := Lib.hid hK
       clear hK
       go_wp2
       first
        | (go_end0; exact ⟨rfl, _, HST.out, by first | exact HK3.out | simpa using HK3.out⟩)
        | (go_ret; exact ⟨rfl, _, HST.out, by first | exact HK3.out | simpa using HK3.out⟩)
        | (refine bodyPost_ret (results_none rfl _ _ _) rfl ?_; exact ⟨rfl, _, HST.out, by first | exact HK3.out | simpa using HK3.out⟩)
end Go.Proofs.YtkpmmabdpeobaaaGreatDoor.Px
namespace Go.Proofs.YtkpmmabdpeobaaaGreatDoor.Px
open Go.RowKit
open St Po
def SymPost (L : List (Nat × Obj)) (R : List Rw) (g n cap : Nat) (P A B Q : List (List UInt8)) (W : World) (e : Ending) (w' : World) : Prop :=
 e = .returned (.tuple #[]) ∧ ∃ C, Stb rk (A ++ B) C ∧ Kp L (rowS g n cap (P ++ C ++ Q) :: R) W w'
set_option maxHeartbeats 32000000 in
set_option maxRecDepth 100000 in
theorem symGen_any (P A B Q : List (List UInt8)) (g n cap a m b : Nat) (L : List (Nat × Obj)) (R : List Rw) (W w : World) (h : Kp L (rowS g n cap (P ++ A ++ B ++ Q) :: R) W w)
 (ha : P.length = a) (hm : a + A.length = m) (hb : m + B.length = b) (hA2 : 2 ≤ A.length) (hB2 : 2 ≤ B.length) (hsA : A.Pairwise (fun x y => rk x ≤ rk y)) (hsB : B.Pairwise (fun x y => rk x ≤ rk y)) (hn : (P ++ A ++ B ++ Q).length = n) (hb' : n ≤ 1000000000)
 (ih : ∀ (P' A' B' Q' : List (List UInt8)) (a' m' b' : Nat) (w' : World), A'.length + B'.length < A.length + B.length → Kp L (rowS g n cap (P' ++ A' ++ B' ++ Q') :: R) W w' → P'.length = a' → a' + A'.length = m' → m' + B'.length = b' → 0 < A'.length → 0 < B'.length → A'.Pairwise (fun x y => rk x ≤ rk y) → B'.Pairwise (fun x y => rk x ≤ rk y) → (P' ++ A' ++ B' ++ Q').length = n →
  Calls Tryz.prog 201 #[.slice (some ⟨g, 0, none⟩) n cap, .int .i64 (a' : Int), .int .i64 (m' : Int), .int .i64 (b' : Int), cmpV] w' (SymPost L R g n cap P' A' B' Q' W)) :
 Calls Tryz.prog 201 #[.slice (some ⟨g, 0, none⟩) n cap, .int .i64 (a : Int), .int .i64 (m : Int), .int .i64 (b : Int), cmpV] w (SymPost L R g n cap P A B Q W) := by
 have HK := Lib.hid h
 have hl : a + A.length + B.length + Q.length = n := by rw [← hn]; simp only [List.length_append]; omega
 have CC := Lib.hid (fun x y w => cmp39_any x y w)
 unfold cmpV at ih ⊢
 have IH := Lib.hid ih
 obtain ⟨al, hal⟩ : ∃ k, A.length = k := ⟨_, rfl⟩
 obtain ⟨bl, hbl⟩ : ∃ k, B.length = k := ⟨_, rfl⟩
 have w0 : IntKind.i64.wrap ((m : Int) - (a : Int)) = (al : Int) := by rw [IntWalk.i64_in _ (by omega)]; omega
 have hne : ¬ (al : Int) = 1 := by omega
 have hneb : ((al : Int) == 1) = false := by simp; omega
 have w9 : IntKind.i64.wrap ((b : Int) - (m : Int)) = (bl : Int) := by rw [IntWalk.i64_in _ (by omega)]; omega
 have hne2 : ¬ (bl : Int) = 1 := by omega
 have hneb2 : ((bl : Int) == 1) = false := by simp; omega
 obtain ⟨mid, hmid⟩ : ∃ k, (a + b) / 2 = k := ⟨_, rfl⟩
 have v1 : IntKind.i64.wrap ((a : Int) + (b : Int)) = (a : Int) + (b : Int) := IntWalk.i64_in _ (by omega)
 have v2 : ((a : Int) + (b : Int)) / 2 = (mid : Int) := by omega
 obtain ⟨nm, hnm⟩ : ∃ k, mid + m = k := ⟨_, rfl⟩
 have v3 : IntKind.i64.wrap ((mid : Int) + (m : Int)) = (nm : Int) := by rw [IntWalk.i64_in _ (by omega)]; omega
 obtain ⟨pp, hpp⟩ : ∃ k, nm - 1 = k := ⟨_, rfl⟩
 have v4 : IntKind.i64.wrap ((nm : Int) - 1) = (pp : Int) := by rw [IntWalk.i64_in _ (by omega)]; omega
 obtain ⟨nb, hnb⟩ : ∃ k, nm - b = k := ⟨_, rfl⟩
 have hamb : a + 2 ≤ m ∧ m + 2 ≤ b ∧ b ≤ n := by omega
 have HG := Lib.hid (And.intro hamb (And.intro hmid (And.intro hnm (And.intro hpp hnb))))
 have HL := Lib.hid (And.intro ha (And.intro hm (And.intro hb (And.intro hal hbl))))
 have HSA := Lib.hid hsA
 have HSB := Lib.hid hsB
 have HN := Lib.hid hn
 have hbnds : a ≤ 1000000000 ∧ m ≤ 1000000000 ∧ b ≤ 1000000000 ∧ mid ≤ 1000000000 ∧ nm ≤ 2000000000 ∧ pp ≤ 2000000000 := by omega
 obtain ⟨bd1, bd2, bd3, bd4, bd5, bd6⟩ := hbnds
 have CA := Lib.hid (fun (c : Nat) (z : List UInt8) (hc : A[c]? = some z) => show ((P ++ A ++ B ++ Q).map sv)[a + c]? = some (sv z) by
  have hlt : c < A.length := (List.getElem?_eq_some_iff.1 hc).1
  have e : (P ++ A ++ B ++ Q)[a + c]? = some z := by
   rw [List.append_assoc, List.append_assoc, List.getElem?_append_right (by omega), List.getElem?_append_left (by omega), show a + c - P.length = c by omega, hc]
  rw [List.getElem?_map, e]
  rfl)
 have CB := Lib.hid (fun (c : Nat) (z : List UInt8) (hc : B[c]? = some z) => show ((P ++ A ++ B ++ Q).map sv)[m + c]? = some (sv z) by
  have hlt : c < B.length := (List.getElem?_eq_some_iff.1 hc).1
  have e : (P ++ A ++ B ++ Q)[m + c]? = some z := by
   rw [List.append_assoc, List.getElem?_append_right (by simp; omega), List.getElem?_append_left (by simp; omega), List.length_append, show m + c - (P.length + A.length) = c by omega, hc]
  rw [List.getElem?_map, e]
  rfl)
 -- where the search begins and ends
 obtain ⟨st0, r0, hst⟩ : ∃ st0 r0 : Nat, (mid < m ∧ st0 = nb ∧ r0 = mid) ∨ (¬ mid < m ∧ st0 = a ∧ r0 = m) := by
  by_cases q : mid < m
  · exact ⟨nb, mid, .inl ⟨q, rfl, rfl⟩⟩
  · exact ⟨a, m, .inr ⟨q, rfl, rfl⟩⟩
 have hrng : a ≤ st0 ∧ st0 ≤ r0 ∧ r0 ≤ m ∧ r0 ≤ mid ∧ (∀ c, st0 ≤ c → c < r0 → m ≤ pp - c ∧ pp - c < b ∧ c ≤ pp) := by
  refine ⟨by omega, by omega, by omega, by omega, fun c h1 h2 => by omega⟩
 have HST := Lib.hid hst
 have HR := Lib.hid hrng
 clear h ha hm hb hsA hsB hn hl ih hal hbl hmid hnm hpp hnb hamb hA2 hB2 hrng hst
 go_enter Tryz.func201, Tryz.ntmps201
 go_upto_if 140 with fail
 go_cut [20, 21] (fun v20 v21 wx => v20 = .int .i64 (st0 : Int) ∧ v21 = .int .i64 (r0 : Int) ∧ wx = w)
 case first => as_aux_lemma =>
  rcases HST.out with ⟨q, e1, e2⟩ | ⟨q, e1, e2⟩
  · have q1 : (mid : Int) < (m : Int) := by omega
    have w7 : IntKind.i64.wrap ((nm : Int) - (b : Int)) = (nb : Int) := by have := HG.out; rw [IntWalk.i64_in _ (by omega)]; omega
    subst e1 e2
    go_wp2_with fail
    go_meet
    exact ⟨rfl, rfl, rfl⟩
  · have q1 : ¬ (mid : Int) < (m : Int) := by omega
    subst e1 e2
    go_wp2_with fail
    go_meet
    exact ⟨rfl, rfl, rfl⟩
 case rest => as_aux_lemma =>
  obtain ⟨rfl, rfl, rfl⟩ := hcut
  go_wp2_with fail
  go_loopw [20, 21, 23] (fun v20 v21 _ wr => ∃ i j : Nat, v20 = .int .i64 (i : Int) ∧ v21 = .int .i64 (j : Int) ∧ st0 ≤ i ∧ i ≤ j ∧ j ≤ r0 ∧ (i = st0 ∨ ∃ x y, A[i - 1 - a]? = some x ∧ B[nm - i - m]? = some y ∧ rk x ≤ rk y) ∧ (j = r0 ∨ ∃ x y, A[j - a]? = some x ∧ B[pp - j - m]? = some y ∧ rk y < rk x) ∧ Kp L (rowS g n cap (P ++ A ++ B ++ Q) :: R) W wr) (fun v20 v21 _ _ => (intOf v21).toNat - (intOf v20).toNat)
  case atStart => exact ⟨st0, r0, rfl, rfl, Nat.le_refl _, HR.out.2.1, Nat.le_refl _, .inl rfl, .inl rfl, HK.out⟩
  case round => as_aux_lemma =>
   obtain ⟨i, j, rfl, rfl, hsi, hij, hjr, h1, h2, hK⟩ := hrel
   clear HK
   have HKK := Lib.hid hK
   have H1 := Lib.hid h1
   have H2 := Lib.hid h2
   clear hK h1 h2
   have hjb : j ≤ m := by have := HR.out.2.2.1; omega
   by_cases hlt : i < j
   · have j1 : (i : Int) < (j : Int) := by omega
     obtain ⟨c, hc⟩ : ∃ c, (i + j) / 2 = c := ⟨_, rfl⟩
     have w1 : IntKind.i64.wrap ((i : Int) + (j : Int)) = (i : Int) + (j : Int) := IntWalk.i64_in _ (by omega)
     have w2 : ((i : Int) + (j : Int)) / 2 = (c : Int) := by omega
     have hci : i ≤ c ∧ c < j := by omega
     obtain ⟨hci, hcj⟩ := hci
     obtain ⟨hp1, hp2, hp3⟩ := HR.out.2.2.2.2 c (by omega) (by omega)
     obtain ⟨pc, hpc⟩ : ∃ k, pp - c = k := ⟨_, rfl⟩
     have w3 : IntKind.i64.wrap ((pp : Int) - (c : Int)) = (pc : Int) := by rw [IntWalk.i64_in _ (by omega)]; omega
     have hbn := HG.out.1.2.2
     have has := HR.out.1
     have b1 : (c : Int) < (n : Int) := by omega
     have b2 : (pc : Int) < (n : Int) := by omega
     obtain ⟨x, hx⟩ : ∃ y, A[c - a]? = some y := ⟨_, List.getElem?_eq_getElem (by have := HL.out.2.1; omega)⟩
     obtain ⟨y, hy⟩ : ∃ y, B[pc - m]? = some y := ⟨_, List.getElem?_eq_getElem (by have := HL.out.2.2.1; omega)⟩
     have c1 : wr.cell? ⟨g, c, none⟩ = some (sv x) := own_cell (HKK.out.row 0 rfl) (by have := CA.out (c - a) x hx; rwa [show a + (c - a) = c by omega] at this)
     have c2 : wr.cell? ⟨g, pc, none⟩ = some (sv y) := own_cell (HKK.out.row 0 rfl) (by have := CB.out (pc - m) y hy; rwa [show m + (pc - m) = pc by omega] at this)
     unfold sv at c1 c2
     obtain ⟨r, hr⟩ : ∃ r, cfL y x = r := ⟨_, rfl⟩
     have CX := Lib.hid (fun w => CC.out y x w)
     rw [hr] at CX
     have hneg := cfL_neg y x
     rw [hr] at hneg
     obtain ⟨sx, hsx⟩ : ∃ s, bs x = s := ⟨_, rfl⟩
     obtain ⟨sy, hsy⟩ : ∃ s, bs y = s := ⟨_, rfl⟩
     rw [hsx] at c1 CX
     rw [hsy] at c2 CX
     have HX := Lib.hid hx
     have HY := Lib.hid hy
     have HPc := Lib.hid (And.intro hpc (And.intro hc (And.intro hp1 hp2)))
     have hib : i ≤ 1000000000 ∧ j ≤ 1000000000 ∧ c ≤ 1000000000 := by omega
     obtain ⟨hib, hjb2, hcb⟩ := hib
     clear hsx hsy hr hx hy hc hpc hp1 hp2 hbn
     by_cases hyx : rk y < rk x
     · have hv : r < 0 := hneg.2 hyx
       have hd : decide (r < 0) = true := decide_eq_true hv
       clear hneg
       go_upto_region 35 with fail
       go_quiet ((go_at_call 84; exact Calls.quiet_of_same (CX.out _)))
       go_wp2_with fail
       go_roundw
       case rel => exact ⟨i, c, rfl, rfl, hsi, hci, by omega, H1.out, .inr ⟨x, y, HX.out, by rw [HPc.out.1]; exact HY.out, hyx⟩, HKK.out.call (below_drewN (Below.refl _ wr) nq) rfl rfl rfl rfl⟩
       case measure => simp [intOf]; omega
     · have hv : ¬ r < 0 := fun q => hyx (hneg.1 q)
       have hd : decide (r < 0) = false := decide_eq_false hv
       clear hneg
       go_upto_region 35 with fail
       go_quiet ((go_at_call 84; exact Calls.quiet_of_same (CX.out _)))
       go_wp2_with fail
       go_roundw
       case rel => exact ⟨c + 1, j, by simp, rfl, by omega, by omega, hjr, .inr ⟨x, y, by rw [show c + 1 - 1 - a = c - a by omega]; exact HX.out, by have := HG.out; have := HPc.out.1; rw [show nm - (c + 1) - m = pc - m by omega]; exact HY.out, by omega⟩, H2.out, HKK.out.call (below_drewN (Below.refl _ wr) nq) rfl rfl rfl rfl⟩
       case measure => simp [intOf]; omega
   · obtain rfl : i = j := by omega
     have j1 : ¬ (i : Int) < (i : Int) := by omega
     obtain ⟨en, hen⟩ : ∃ k, nm - i = k := ⟨_, rfl⟩
     have hfin : (i - a = 0 ∨ B.length ≤ mid - i ∨ ∃ x y, A[i - a - 1]? = some x ∧ B[mid - i]? = some y ∧ rk x ≤ rk y) ∧ (mid - i = 0 ∨ A.length ≤ i - a ∨ ∃ x y, A[i - a]? = some x ∧ B[mid - i - 1]? = some y ∧ rk y < rk x) := by
      have g1 := HG.out
      have g2 := HL.out
      have g3 := HR.out
      refine ⟨?_, ?_⟩
      · rcases H1.out with e | ⟨x, y, e1, e2, e3⟩
        · rcases HST.out with ⟨q, q1, q2⟩ | ⟨q, q1, q2⟩
          · exact .inr (.inl (by omega))
          · exact .inl (by omega)
        · exact .inr (.inr ⟨x, y, by rw [show i - a - 1 = i - 1 - a by omega]; exact e1, by rw [show mid - i = nm - i - m by omega]; exact e2, e3⟩)
      · rcases H2.out with e | ⟨x, y, e1, e2, e3⟩
        · rcases HST.out with ⟨q, q1, q2⟩ | ⟨q, q1, q2⟩
          · exact .inl (by omega)
          · exact .inr (.inl (by omega))
        · exact .inr (.inr ⟨x, y, e1, by rw [show mid - i - 1 = pp - i - m by omega]; exact e2, e3⟩)
     have HFin := Lib.hid hfin
     clear hfin
     have hspl := fun C1 C2 => stb_split (k := rk) (C1 := C1) (C2 := C2) HSA.out HSB.out HFin.out.1 HFin.out.2
     have g1 := HG.out
     have g2 := HL.out
     have g3 := HR.out
     have hmi : mid - i ≤ B.length := by
      rcases HST.out with ⟨q, q1, q2⟩ | ⟨q, q1, q2⟩
      · omega
      · omega
     have hsz : (A.take (i - a)).length = i - a ∧ (A.drop (i - a)).length = m - i ∧ (B.take (mid - i)).length = mid - i ∧ (B.drop (mid - i)).length = b - en ∧ a ≤ i ∧ i ≤ mid ∧ m + (mid - i) = en ∧ en ≤ b ∧ mid ≤ en := by
      rw [List.length_take, List.length_drop, List.length_take, List.length_drop]
      omega
     have sA := List.pairwise_append.1 (List.take_append_drop (i - a) A ▸ HSA.out)
     have sB := List.pairwise_append.1 (List.take_append_drop (mid - i) B ▸ HSB.out)
     have eA := List.take_append_drop (i - a) A
     have eB := List.take_append_drop (mid - i) B
     obtain ⟨A1, hA1⟩ : ∃ l, A.take (i - a) = l := ⟨_, rfl⟩
     obtain ⟨A2, hA2⟩ : ∃ l, A.drop (i - a) = l := ⟨_, rfl⟩
     obtain ⟨B1, hB1⟩ : ∃ l, B.take (mid - i) = l := ⟨_, rfl⟩
     obtain ⟨B2, hB2⟩ : ∃ l, B.drop (mid - i) = l := ⟨_, rfl⟩
     rw [hA1, hA2] at eA
     rw [hB1, hB2] at eB
     rw [hA1, hA2, hB1, hB2] at hspl hsz
     have sA1 := sA.1
     have sA2 := sA.2.1
     have sB1 := sB.1
     have sB2 := sB.2.1
     rw [hA1] at sA1
     rw [hA2] at sA2
     rw [hB1] at sB1
     rw [hB2] at sB2
     have HSpl := Lib.hid hspl
     have HSz := Lib.hid hsz
     have HSo := Lib.hid (And.intro sA1 (And.intro sA2 (And.intro sB1 sB2)))
     have hk1 := HKK.out
     rw [← eA, ← eB] at hk1
     have hn1 := HN.out
     rw [← eA, ← eB] at hn1
     have HN1 := Lib.hid hn1
     have HK1 := Lib.hid (show Kp L (rowS g n cap (P ++ A1 ++ A2 ++ (B1 ++ B2) ++ Q) :: R) W wr by simpa using hk1)
     have HAB := Lib.hid (show A.length + B.length = b - a by omega)
     have x1 : i ≤ mid ∧ a ≤ i ∧ en ≤ b ∧ mid ≤ en ∧ m + (mid - i) = en := by omega
     obtain ⟨x1, x2, x3, x4, x5⟩ := x1
     have v5 : IntKind.i64.wrap ((nm : Int) - (i : Int)) = (en : Int) := by rw [IntWalk.i64_in _ (by omega)]; omega
     have HEn := Lib.hid hen
     clear hen hspl hmi g1 g2 g3 hsz sA sB eA eB hA1 hA2 hB1 hB2 sA1 sA2 sB1 sB2 hk1 hn1 H1 H2 HKK
     go_upto_region 39 with fail
     go_cut [185] (fun v wx => v = .bool (decide (i < m ∧ m < en)) ∧ Kp L (rowS g n cap (P ++ A1 ++ A2 ++ (B1 ++ B2) ++ Q) :: R) W wx)
     case first => as_aux_lemma =>
      by_cases y1 : i < m
      · have z1 : (i : Int) < (m : Int) := by omega
        by_cases y2 : m < en
        · have z2 : (m : Int) < (en : Int) := by omega
          have HQ := Lib.hid (decide_eq_true (And.intro y1 y2))
          clear y1 y2
          go_wp2_with fail
          go_meet
          exact ⟨by rw [HQ.out], HK1.out⟩
        · have z2 : ¬ (m : Int) < (en : Int) := by omega
          have HQ := Lib.hid (decide_eq_false (p := i < m ∧ m < en) (fun q => y2 q.2))
          clear y1 y2
          go_wp2_with fail
          go_meet
          exact ⟨by rw [HQ.out], HK1.out⟩
      · have z1 : ¬ (i : Int) < (m : Int) := by omega
        have HQ := Lib.hid (decide_eq_false (p := i < m ∧ m < en) (fun q => y1 q.1))
        clear y1
        go_wp2_with fail
        go_meet
        exact ⟨by rw [HQ.out], HK1.out⟩
     case rest => as_aux_lemma =>
      obtain ⟨rfl, hk⟩ := hcut
      have HK2 := Lib.hid hk
      clear hk HK1
      obtain ⟨q, hq⟩ : ∃ q, decide (i < m ∧ m < en) = q := ⟨_, rfl⟩
      have HQ := Lib.hid hq
      rw [hq]
      clear hq
      go_upto_if 185 with fail
      go_cut [191] (fun _ wx => Kp L (rowS g n cap (P ++ A1 ++ B1 ++ (A2 ++ B2 ++ Q)) :: R) W wx)
      case first => as_aux_lemma =>
       cases q
       · have hq := of_decide_eq_false HQ.out
         have hz := HSz.out
         have he : P ++ A1 ++ A2 ++ (B1 ++ B2) ++ Q = P ++ A1 ++ B1 ++ (A2 ++ B2 ++ Q) := by
          by_cases y1 : i < m
          · have : B1 = [] := List.length_eq_zero_iff.1 (by omega)
            rw [this]; simp
          · have : A2 = [] := List.length_eq_zero_iff.1 (by omega)
            rw [this]; simp
         have hk := HK2.out
         rw [he] at hk
         have HK3 := Lib.hid hk
         clear hk he hz hq
         go_wp2_with fail
         go_meet
         exact HK3.out
       · have hq := of_decide_eq_true HQ.out
         have HQ2 := Lib.hid hq
         clear hq
         go_wp2_with fail
         refine (rotate_any (P ++ A1) A2 B1 (B2 ++ Q) _ g n cap i m en L R W _ (by have := HK2.out; simpa using this) (by have := HSz.out; have := HL.out.1; rw [List.length_append]; omega) (by have := HSz.out; have := HQ2.out; omega) (by have := HSz.out; omega) (by have := HSz.out; have := HQ2.out; omega) (by have := HSz.out; have := HQ2.out; omega) (by have := HN1.out; simpa using this) hb').mono ?_
         rintro e V7 ⟨rfl, hk⟩
         have HK3 := Lib.hid (show Kp L (rowS g n cap (P ++ A1 ++ B1 ++ (A2 ++ B2 ++ Q)) :: R) W V7 by simpa using hk)
         clear hk
         go_wp2_with fail
         go_meet
         exact HK3.out
      case rest => as_aux_lemma =>
       have HK3 := Lib.hid hcut
       clear hcut HK2 HQ
       go_upto_region 41 with fail
       go_cut [199] (fun v wx => v = .bool (decide (a < i ∧ i < mid)) ∧ Kp L (rowS g n cap (P ++ A1 ++ B1 ++ (A2 ++ B2 ++ Q)) :: R) W wx)
       case first => as_aux_lemma =>
        by_cases y1 : a < i
        · have z1 : (a : Int) < (i : Int) := by omega
          by_cases y2 : i < mid
          · have z2 : (i : Int) < (mid : Int) := by omega
            have HQ := Lib.hid (decide_eq_true (And.intro y1 y2))
            clear y1 y2
            go_wp2_with fail
            go_meet
            exact ⟨by rw [HQ.out], HK3.out⟩
          · have z2 : ¬ (i : Int) < (mid : Int) := by omega
            have HQ := Lib.hid (decide_eq_false (p := a < i ∧ i < mid) (fun q => y2 q.2))
            clear y1 y2
            go_wp2_with fail
            go_meet
            exact ⟨by rw [HQ.out], HK3.out⟩
        · have z1 : ¬ (a : Int) < (i : Int) := by omega
          have HQ := Lib.hid (decide_eq_false (p := a < i ∧ i < mid) (fun q => y1 q.1))
          clear y1
          go_wp2_with fail
          go_meet
          exact ⟨by rw [HQ.out], HK3.out⟩
       case rest => as_aux_lemma =>
        obtain ⟨rfl, hk⟩ := hcut
        have HK4 := Lib.hid hk
        clear hk HK3
        obtain ⟨q2, hq⟩ : ∃ q, decide (a < i ∧ i < mid) = q := ⟨_, rfl⟩
        have HQ := Lib.hid hq
        rw [hq]
        clear hq
        go_upto_if 199 with fail
        go_cut [205] (fun _ wx => ∃ C1, Stb rk (A1 ++ B1) C1 ∧ Kp L (rowS g n cap (P ++ C1 ++ A2 ++ B2 ++ Q) :: R) W wx)
        case first => as_aux_lemma =>
         cases q2
         · have hq := of_decide_eq_false HQ.out
           have hz := HSz.out
           have hso := HSo.out
           have hst : Stb rk (A1 ++ B1) (A1 ++ B1) := by
            by_cases y1 : a < i
            · have : B1 = [] := List.length_eq_zero_iff.1 (by omega)
              rw [this, List.append_nil]; exact Stb.self hso.1
            · have : A1 = [] := List.length_eq_zero_iff.1 (by omega)
              rw [this, List.nil_append]; exact Stb.self hso.2.2.1
           have HS1 := Lib.hid hst
           clear hst hso hz hq
           go_wp2_with fail
           go_meet
           exact ⟨A1 ++ B1, HS1.out, by have := HK4.out; simpa using this⟩
         · have hq := of_decide_eq_true HQ.out
           have HQ2 := Lib.hid hq
           clear hq
           go_wp2_with fail
           refine (IH.out P A1 B1 (A2 ++ B2 ++ Q) a i mid _ (by have := HSz.out; have := HAB.out; have := HG.out; omega) HK4.out HL.out.1 (by have := HSz.out; omega) (by have := HSz.out; omega) (by have := HSz.out; have := HQ2.out; omega) (by have := HSz.out; have := HQ2.out; omega) HSo.out.1 HSo.out.2.2.1 (by have := HN1.out; simp only [List.length_append] at this ⊢; omega)).mono ?_
           rintro e V7 ⟨rfl, C1, hs1, hk⟩
           have HS1 := Lib.hid hs1
           have HK5 := Lib.hid hk
           clear hs1 hk
           go_wp2_with fail
           go_meet
           exact ⟨C1, HS1.out, by have := HK5.out; simpa using this⟩
        case rest => as_aux_lemma =>
         obtain ⟨C1, hs1, hk⟩ := hcut
         have HS1 := Lib.hid hs1
         have HK5 := Lib.hid hk
         have HC1 := Lib.hid hs1.len
         clear hs1 hk HK4 HQ
         go_upto_region 43 with fail
         go_cut [213] (fun v wx => v = .bool (decide (mid < en ∧ en < b)) ∧ Kp L (rowS g n cap (P ++ C1 ++ A2 ++ B2 ++ Q) :: R) W wx)
         case first => as_aux_lemma =>
          by_cases y1 : mid < en
          · have z1 : (mid : Int) < (en : Int) := by omega
            by_cases y2 : en < b
            · have z2 : (en : Int) < (b : Int) := by omega
              have HQ := Lib.hid (decide_eq_true (And.intro y1 y2))
              clear y1 y2
              go_wp2_with fail
              go_meet
              exact ⟨by rw [HQ.out], HK5.out⟩
            · have z2 : ¬ (en : Int) < (b : Int) := by omega
              have HQ := Lib.hid (decide_eq_false (p := mid < en ∧ en < b) (fun q => y2 q.2))
              clear y1 y2
              go_wp2_with fail
              go_meet
              exact ⟨by rw [HQ.out], HK5.out⟩
          · have z1 : ¬ (mid : Int) < (en : Int) := by omega
            have HQ := Lib.hid (decide_eq_false (p := mid < en ∧ en < b) (fun q => y1 q.1))
            clear y1
            go_wp2_with fail
            go_meet
            exact ⟨by rw [HQ.out], HK5.out⟩
         case rest => as_aux_lemma =>
          obtain ⟨rfl, hk⟩ := hcut
          have HK6 := Lib.hid hk
          clear hk HK5
          obtain ⟨q3, hq⟩ : ∃ q, decide (mid < en ∧ en < b) = q := ⟨_, rfl⟩
          have HQ := Lib.hid hq
          rw [hq]
          clear hq
          cases q3
          · have hq := of_decide_eq_false HQ.out
            have hz := HSz.out
            have hso := HSo.out
            have hg := HEn.out
            have hst : Stb rk (A2 ++ B2) (A2 ++ B2) := by
             by_cases y1 : mid < en
             · have : B2 = [] := List.length_eq_zero_iff.1 (by omega)
               rw [this, List.append_nil]; exact Stb.self hso.2.1
             · have : A2 = [] := List.length_eq_zero_iff.1 (by omega)
               rw [this, List.nil_append]; exact Stb.self hso.2.2.2
            have HS2 := Lib.hid hst
            clear hst hso hz hq hg
            go_wp2
            go_end0
            exact ⟨rfl, C1 ++ (A2 ++ B2), HSpl.out C1 _ HS1.out HS2.out, by have := HK6.out; simpa using this⟩
          · have hq := of_decide_eq_true HQ.out
            have HQ2 := Lib.hid hq
            clear hq
            go_wp2_with fail
            refine (IH.out (P ++ C1) A2 B2 Q mid en b _ (by have := HSz.out; have := HAB.out; have := HG.out; omega) (by have := HK6.out; simpa using this) (by have := HSz.out; have := HC1.out; have := HL.out.1; rw [List.length_append] at *; omega) (by have := HSz.out; have := HEn.out; have := HG.out; omega) (by have := HSz.out; omega) (by have := HSz.out; have := HQ2.out; omega) (by have := HSz.out; have := HQ2.out; omega) HSo.out.2.1 HSo.out.2.2.2 (by have h1 := HN1.out; have h2 := HC1.out; simp only [List.length_append] at h1 h2 ⊢; omega)).mono ?_
            rintro e V7 ⟨rfl, C2, hs2, hk⟩
            have HS2 := Lib.hid hs2
            have HK7 := Lib.hid hk
            clear hs2 hk
            go_wp2
            go_end0
            exact ⟨rfl, C1 ++ C2, HSpl.out C1 C2 HS1.out HS2.out, by have := HK7.out; simpa using this⟩
end Go.Proofs.YtkpmmabdpeobaaaGreatDoor.Px
namespace Go.Proofs.YtkpmmabdpeobaaaGreatDoor.Px
open Go.RowKit
open St Po
theorem symMerge_any (g n cap : Nat) (L : List (Nat × Obj)) (R : List Rw) (W : World) (hb' : n ≤ 1000000000) : ∀ (N : Nat) (P A B Q : List (List UInt8)) (a m b : Nat) (w : World), A.length + B.length = N → Kp L (rowS g n cap (P ++ A ++ B ++ Q) :: R) W w →
 P.length = a → a + A.length = m → m + B.length = b → 0 < A.length → 0 < B.length → A.Pairwise (fun x y => rk x ≤ rk y) → B.Pairwise (fun x y => rk x ≤ rk y) → (P ++ A ++ B ++ Q).length = n →
 Calls Tryz.prog 201 #[.slice (some ⟨g, 0, none⟩) n cap, .int .i64 (a : Int), .int .i64 (m : Int), .int .i64 (b : Int), cmpV] w (SymPost L R g n cap P A B Q W) := by
 intro N
 induction N using Nat.strongRecOn with
 | _ N ih =>
   intro P A B Q a m b w hN hk ha hm hb hA hB sA sB hn
   by_cases h1 : A.length = 1
   · obtain ⟨x, rfl⟩ := List.length_eq_one_iff.1 h1
     exact symFirst_any P B Q x g n cap a m b L R W w hk ha (by simpa using hm) hb sB hn hb'
   · by_cases h2 : B.length = 1
     · obtain ⟨y, rfl⟩ := List.length_eq_one_iff.1 h2
       exact symLast_any P A Q y g n cap a m b L R W w hk ha hm (by simpa using hb) (by omega) sA hn hb'
     · exact symGen_any P A B Q g n cap a m b L R W w hk ha hm hb (by omega) (by omega) sA sB hn hb' (fun P' A' B' Q' a' m' b' w' hlt hk' ha' hm' hbb hA' hB' sA' sB' hn' => ih (A'.length + B'.length) (by omega) P' A' B' Q' a' m' b' w' rfl hk' ha' hm' hbb hA' hB' sA' sB' hn')
set_option maxHeartbeats 16000000 in
set_option maxRecDepth 100000 in
theorem stable_any (D : List (List UInt8)) (g n cap : Nat) (L : List (Nat × Obj)) (R : List Rw) (W w : World) (h : Kp L (rowS g n cap D :: R) W w) (hn : D.length = n) (hb' : n ≤ 500000000) :
 Calls Tryz.prog 165 #[.slice (some ⟨g, 0, none⟩) n cap, .int .i64 (n : Int), cmpV] w fun e w' => e = .returned (.tuple #[]) ∧ ∃ C, Stb rk D C ∧ Kp L (rowS g n cap C :: R) W w' := by
 have HK := Lib.hid h
 have HN := Lib.hid hn
 have CI := Lib.hid (fun (P E Q : List (List UInt8)) (a b : Nat) (w : World) h ha hb hn => insertion_any P E Q g n cap a b L R W w h ha hb hn (by omega))
 have CM := Lib.hid (fun (P A B Q : List (List UInt8)) (a m b : Nat) (w : World) hk ha hm hb hA hB sA sB hn => symMerge_any g n cap L R W (by omega) (A.length + B.length) P A B Q a m b w rfl hk ha hm hb hA hB sA sB hn)
 unfold cmpV at CI CM ⊢
 unfold SymPost at CM
 clear h hn
 go_enter Tryz.func165, Tryz.ntmps165
 go_wp2_with fail
 go_loopw [7, 8] (fun v7 v8 wr => ∃ (D1 C1 E : List (List UInt8)) (a b : Nat), v7 = .int .i64 (a : Int) ∧ v8 = .int .i64 (b : Int) ∧ b = a + 20 ∧ D = D1 ++ E ∧ D1.length = a ∧ Fu rk 20 D1 C1 ∧ Kp L (rowS g n cap (C1 ++ E) :: R) W wr) (fun v7 _ _ => n - (intOf v7).toNat)
 case atStart => exact ⟨[], [], D, 0, 20, rfl, rfl, rfl, rfl, rfl, Fu.none, HK.out⟩
 case round => as_aux_lemma =>
  obtain ⟨D1, C1, E, a, b, rfl, rfl, hab, hD, hD1, hF, hK⟩ := hrel
  clear HK
  have hlen : D1.length + E.length = n := by have := HN.out; rw [hD, List.length_append] at this; exact this
  have hCl := hF.len
  have HF := Lib.hid hF
  have HKK := Lib.hid hK
  have HD := Lib.hid hD
  have HL := Lib.hid (And.intro hab (And.intro hD1 (And.intro hlen hCl)))
  have hbb : a ≤ n ∧ b ≤ n + 20 := by omega
  obtain ⟨ha1, hb1⟩ := hbb
  clear hF hK hD hab hD1 hlen hCl
  by_cases hbn : b ≤ n
  · have j1 : (b : Int) ≤ (n : Int) := by omega
    have j1' : ¬ (n : Int) < (b : Int) := by omega
    obtain ⟨b2, hb2⟩ : ∃ k, b + 20 = k := ⟨_, rfl⟩
    have w1 : IntKind.i64.wrap ((b : Int) + 20) = (b2 : Int) := by rw [IntWalk.i64_in _ (by omega)]; omega
    have HB := Lib.hid hb2
    clear hb2
    go_wp2_with fail
    refine (CI.out C1 (E.take 20) (E.drop 20) a b _ (by rw [List.append_assoc, List.take_append_drop]; exact HKK.out) (by have := HL.out; omega) (by rw [List.length_take]; have := HL.out; omega) (by rw [List.append_assoc, List.take_append_drop, List.length_append]; have := HL.out; omega)).mono ?_
    rintro e V7 ⟨rfl, C, hs, hk⟩
    have HS := Lib.hid hs
    have HK7 := Lib.hid hk
    clear hs hk
    go_wp2_with fail
    go_roundw
    case rel =>
     have hl := HL.out
     have hb2 := HB.out
     refine ⟨D1 ++ E.take 20, C1 ++ C, E.drop 20, b, b2, rfl, rfl, by omega, by rw [List.append_assoc, List.take_append_drop]; exact HD.out, by rw [List.length_append, List.length_take]; omega, Fu.snoc D1 C1 _ C HF.out (by rw [List.length_take]; omega) HS.out, HK7.out⟩
    case measure => have := HL.out; simp [intOf]; omega
  · have j1 : ¬ (b : Int) ≤ (n : Int) := by omega
    have j1' : (n : Int) < (b : Int) := by omega
    go_wp2_with fail
    refine (CI.out C1 E [] a n _ (by rw [List.append_nil]; exact HKK.out) (by have := HL.out; omega) (by have := HL.out; omega) (by rw [List.append_nil, List.length_append]; have := HL.out; omega)).mono ?_
    rintro e V7 ⟨rfl, C, hs, hk⟩
    have hbl : Bl rk 20 D (C1 ++ C) := by
     rw [HD.out]
     exact HF.out.bl (Bl.last E C (by have := HL.out; omega) hs)
    have HBl := Lib.hid hbl
    have HK7 := Lib.hid (show Kp L (rowS g n cap (C1 ++ C) :: R) W V7 by simpa using hk)
    clear hs hk hbl HKK HF HD HL j1 j1' ha1 hb1 hbn
    go_wp2_with fail
    go_loopw [6, 7, 8, 9] (fun v6 _ _ _ wr => ∃ (s : Nat) (C : List (List UInt8)), v6 = .int .i64 (s : Int) ∧ 0 < s ∧ s ≤ 1000000000 ∧ Bl rk s D C ∧ Kp L (rowS g n cap C :: R) W wr) (fun v6 _ _ _ _ => n - (intOf v6).toNat)
    case atStart => exact ⟨20, C1 ++ C, rfl, by omega, by omega, HBl.out, HK7.out⟩
    case round => as_aux_lemma =>
     obtain ⟨s, C, rfl, hs0, hsb, hB, hK⟩ := hrel
     clear HBl HK7
     have HB := Lib.hid hB
     have HKK := Lib.hid hK
     clear hB hK
     by_cases hsn : s < n
     · have j1 : (s : Int) < (n : Int) := by omega
       obtain ⟨ss, hss⟩ : ∃ k, 2 * s = k := ⟨_, rfl⟩
       have w1 : IntKind.i64.wrap (2 * (s : Int)) = (ss : Int) := by rw [IntWalk.i64_in _ (by omega)]; omega
       have w2 : IntKind.i64.wrap ((s : Int) * 2) = (ss : Int) := by rw [IntWalk.i64_in _ (by omega)]; omega
       have HSS := Lib.hid hss
       have hssb : ss ≤ 1000000000 := by omega
       clear hss
       go_wp2_with fail
       go_loopw [7, 8] (fun v7 v8 wr => ∃ (D1 C1 D2 C2 : List (List UInt8)) (a b : Nat), v7 = .int .i64 (a : Int) ∧ v8 = .int .i64 (b : Int) ∧ b = a + ss ∧ D = D1 ++ D2 ∧ D1.length = a ∧ Fu rk ss D1 C1 ∧ Bl rk s D2 C2 ∧ Kp L (rowS g n cap (C1 ++ C2) :: R) W wr) (fun v7 _ _ => n - (intOf v7).toNat)
       case atStart => exact ⟨[], [], D, C, 0, ss, rfl, rfl, by omega, rfl, rfl, Fu.none, HB.out, HKK.out⟩
       case round => as_aux_lemma =>
        obtain ⟨D1, C1, D2, C2, a, b, rfl, rfl, hab, hD, hD1, hF, hB2, hK⟩ := hrel
        clear HB HKK
        have hlen : D1.length + D2.length = n := by have := HN.out; rw [hD, List.length_append] at this; exact this
        have hCl := hF.len
        have hCl2 := hB2.len
        have HF := Lib.hid hF
        have HB2 := Lib.hid hB2
        have HKK := Lib.hid hK
        have HD := Lib.hid hD
        have HL := Lib.hid (And.intro hab (And.intro hD1 (And.intro hlen (And.intro hCl hCl2))))
        have hbb : a ≤ n ∧ b ≤ n + 1000000000 := by omega
        obtain ⟨ha1, hb1⟩ := hbb
        obtain ⟨am, ham⟩ : ∃ k, a + s = k := ⟨_, rfl⟩
        have w3 : IntKind.i64.wrap ((a : Int) + (s : Int)) = (am : Int) := by rw [IntWalk.i64_in _ (by omega)]; omega
        have HAm := Lib.hid ham
        clear hF hB2 hK hD hab hD1 hlen hCl hCl2 ham
        by_cases hbn : b ≤ n
        · have j2 : (b : Int) ≤ (n : Int) := by omega
          have j2' : ¬ (n : Int) < (b : Int) := by omega
          obtain ⟨b2, hb2⟩ : ∃ k, b + ss = k := ⟨_, rfl⟩
          have w4 : IntKind.i64.wrap ((b : Int) + (ss : Int)) = (b2 : Int) := by rw [IntWalk.i64_in _ (by omega)]; omega
          have HBb := Lib.hid hb2
          obtain ⟨X1, Y1, X2, Y2, X3, Y3, rfl, rfl, hX1, hX2, hs1, hs2, hB3⟩ := HB2.out.two hs0 (by have := HL.out; have := HSS.out; omega)
          have l1 := hs1.len
          have l2 := hs2.len
          have HX := Lib.hid (And.intro hX1 (And.intro hX2 (And.intro l1 l2)))
          have HS1 := Lib.hid hs1
          have HS2 := Lib.hid hs2
          have HB3 := Lib.hid hB3
          have HZ := Lib.hid hs0
          clear hb2 hX1 hX2 l1 l2 hs1 hs2 hB3
          go_wp2_with fail
          refine (CM.out C1 Y1 Y2 Y3 a am b _ (by have := HKK.out; simpa using this) (by have := HL.out; omega) (by have := HX.out; have := HAm.out; omega) (by have := HX.out; have := HAm.out; have := HL.out; have := HSS.out; omega) (by have := HX.out; have := HZ.out; omega) (by have := HX.out; have := HZ.out; omega) HS1.out.sorted HS2.out.sorted (by have h1 := HL.out; simp only [List.length_append] at h1 ⊢; omega)).mono ?_
          rintro e V7 ⟨rfl, C, hs, hk⟩
          have HS := Lib.hid hs
          have HK7 := Lib.hid hk
          clear hs hk
          go_wp2_with fail
          go_roundw
          case rel =>
           have hl := HL.out
           have hx := HX.out
           have hb2 := HBb.out
           have hss := HSS.out
           refine ⟨D1 ++ (X1 ++ X2), C1 ++ C, X3, Y3, b, b2, rfl, rfl, by omega, by rw [HD.out]; simp, by simp only [List.length_append]; omega, Fu.snoc D1 C1 _ C HF.out (by rw [List.length_append]; omega) (HS1.out.app HS2.out HS.out), HB3.out, by have := HK7.out; simpa using this⟩
          case measure => have := HL.out; have := HSS.out; have := HZ.out; simp [intOf]; omega
        · have j2 : ¬ (b : Int) ≤ (n : Int) := by omega
          have j2' : (n : Int) < (b : Int) := by omega
          have HZ := Lib.hid hs0
          by_cases hmn : am < n
          · have j3 : (am : Int) < (n : Int) := by omega
            obtain ⟨X1, Y1, X2, Y2, rfl, rfl, hX1, hs1, hs2⟩ := HB2.out.rest (by have := HL.out; have := HAm.out; omega) (by have := HL.out; have := HSS.out; omega)
            have l1 := hs1.len
            have l2 := hs2.len
            have HX := Lib.hid (And.intro hX1 (And.intro l1 l2))
            have HS1 := Lib.hid hs1
            have HS2 := Lib.hid hs2
            clear hX1 l1 l2 hs1 hs2
            go_wp2_with fail
            refine (CM.out C1 Y1 Y2 [] a am n _ (by have := HKK.out; simpa using this) (by have := HL.out; omega) (by have := HX.out; have := HAm.out; omega) (by have h1 := HL.out; have h2 := HX.out; have := HAm.out; simp only [List.length_append] at h1; omega) (by have := HX.out; have := HZ.out; omega) (by have h1 := HL.out; have h2 := HX.out; have := HAm.out; simp only [List.length_append] at h1; omega) HS1.out.sorted HS2.out.sorted (by have h1 := HL.out; simp only [List.length_append, List.length_nil] at h1 ⊢; omega)).mono ?_
            rintro e V7 ⟨rfl, C, hs, hk⟩
            have HS := Lib.hid hs
            have HK7 := Lib.hid hk
            clear hs hk
            go_wp2_with fail
            go_roundw
            case rel =>
             have hl := HL.out
             have hss := HSS.out
             have hz := HZ.out
             refine ⟨ss, C1 ++ C, rfl, by omega, hssb, by rw [HD.out]; exact HF.out.bl (Bl.last _ C (by simp only [List.length_append] at hl ⊢; omega) (HS1.out.app HS2.out HS.out)), by have := HK7.out; simpa using this⟩
            case measure => have := HSS.out; have := HZ.out; simp [intOf]; omega
          · have j3 : ¬ (am : Int) < (n : Int) := by omega
            go_wp2_with fail
            go_roundw
            case rel =>
             have hl := HL.out
             have hss := HSS.out
             have hz := HZ.out
             have ham := HAm.out
             exact ⟨ss, C1 ++ C2, rfl, by omega, hssb, by rw [HD.out]; exact HF.out.bl (Bl.last _ C2 (by omega) (HB2.out.one (by omega))), HKK.out⟩
            case measure => have := HSS.out; have := HZ.out; simp [intOf]; omega
     · have j1 : ¬ (s : Int) < (n : Int) := by omega
       go_wp2
       go_end0
       exact ⟨rfl, C, HB.out.one (by have := HN.out; omega), HKK.out⟩
end Go.Proofs.YtkpmmabdpeobaaaGreatDoor.Px
