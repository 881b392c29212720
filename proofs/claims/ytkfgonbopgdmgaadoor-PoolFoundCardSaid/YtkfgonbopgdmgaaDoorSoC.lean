/- The library's stable sort at strings: the comparison by lengths; the insertion sort of a part. -/
import Derived.Test.YtkfgonbopgdmgaaDoorSoB
import Derived.Test.YtkfgonbopgdmgaaDoorStR
import Derived.Test.YtkfgonbopgdmgaaDoorPoP
import Derived.Laws.EntriesVeiled
namespace Go.Proofs.YtkfgonbopgdmgaaDoor.Px
open Go.RowKit
open St Po

theorem Kp.swapR {L : List (Nat × Obj)} {R : List Rw} {W X : World} {g n cap : Nat} {P M Q : List (List UInt8)} {x y : List UInt8} {i j : Nat} (h : Kp L (rowS g n cap (P ++ x :: (M ++ y :: Q)) :: R) W X) (hn : 0 < n) (hi : P.length = i) (hj : P.length + 1 + M.length = j) :
    X.cell? ⟨g, i, none⟩ = some (sv x) ∧ X.cell? ⟨g, j, none⟩ = some (sv y) ∧ X.frozen? ⟨g, i, none⟩ = false ∧ X.frozen? ⟨g, j, none⟩ = false ∧ (X.setCell ⟨g, j, none⟩ (sv x)).cell? ⟨g, i, none⟩ = some (sv x) ∧
      Kp L (rowS g n cap (P ++ y :: (M ++ x :: Q)) :: R) W ((X.setCell ⟨g, j, none⟩ (sv x)).setCell ⟨g, i, none⟩ (sv y)) := by
  obtain ⟨a1, a2, f1, f2, _, _⟩ := h.swapS hn hi hj
  have h1 := h.put hn j (sv x)
  have h2 := h1.put hn i (sv y)
  have hr := rows_swap (Q := Q) (x := x) (y := y) (M := M) hi hj
  rw [List.set_comm _ _ (by omega)] at hr
  refine ⟨a1, a2, f1, f2, own_cell (h1.row 0 rfl) ?_, ?_⟩
  · rw [List.getElem?_set_ne (by omega)]
    exact rows_at (x := x) (Q := M ++ y :: Q) hi
  · rw [hr] at h2
    exact h2
/-- what the comparison says -/
def cfL (x y : List UInt8) : Int := if y.length < x.length then -1 else if x.length < y.length then 1 else 0
theorem cfL_neg (x y : List UInt8) : cfL x y < 0 ↔ rk x < rk y := by
  unfold cfL rk
  split
  · omega
  · split <;> omega
theorem isNaN_any (x : Int) (w : World) : Calls Tryd.prog 66 #[.int .i64 x] w fun e w' => e = .returned (.bool false) ∧ w' = w := by
  go_enter Tryd.func66, Tryd.ntmps66
  go_wp2
  go_ret
  exact ⟨rfl, rfl⟩
theorem compare_any (x y : Int) (w : World) : Calls Tryd.prog 44 #[.int .i64 x, .int .i64 y] w fun e w' => e = .returned (.int .i64 (if x < y then -1 else if y < x then 1 else 0)) ∧ w' = w := by
  have CN := Lib.hid (fun x w => isNaN_any x w)
  go_enter Tryd.func44, Tryd.ntmps44
  by_cases h1 : x < y
  · rw [if_pos h1]
    go_wp2_with (go_at_call 66; refine (CN.out _ _).mono ?_; rintro e w' ⟨rfl, rfl⟩)
    go_ret
    exact ⟨rfl, rfl⟩
  · rw [if_neg h1]
    by_cases h2 : y < x
    · rw [if_pos h2]
      go_wp2_with (go_at_call 66; refine (CN.out _ _).mono ?_; rintro e w' ⟨rfl, rfl⟩)
      go_ret
      exact ⟨rfl, rfl⟩
    · rw [if_neg h2]
      go_wp2_with (go_at_call 66; refine (CN.out _ _).mono ?_; rintro e w' ⟨rfl, rfl⟩)
      go_ret
      exact ⟨rfl, rfl⟩
theorem cmp_any (x y : List UInt8) (w : World) : Calls Tryd.prog 43 #[.string (bs x), .string (bs y)] w fun e w' => e = .returned (.int .i64 (cfL x y)) ∧ w' = w := by
  have CC := Lib.hid (compare_any (y.length : Int) (x.length : Int))
  have hc : cfL x y = if (y.length : Int) < (x.length : Int) then -1 else if (x.length : Int) < (y.length : Int) then 1 else 0 := by
    unfold cfL
    simp only [Int.ofNat_lt]
  rw [← hc] at CC
  obtain ⟨r, hr⟩ : ∃ r, cfL x y = r := ⟨_, rfl⟩
  rw [hr] at CC ⊢
  have e1 : (bs x).size = x.length := rfl
  have e2 : (bs y).size = y.length := rfl
  rw [← e1, ← e2] at CC
  obtain ⟨sx, hsx⟩ : ∃ s, bs x = s := ⟨_, rfl⟩
  obtain ⟨sy, hsy⟩ : ∃ s, bs y = s := ⟨_, rfl⟩
  rw [hsx, hsy] at CC ⊢
  clear hc hr e1 e2 hsx hsy
  go_enter Tryd.func43, Tryd.ntmps43
  go_wp2_with (go_at_call 44; refine (CC.out _).mono ?_; rintro e w' ⟨rfl, rfl⟩)
  go_ret
  exact ⟨rfl, rfl⟩
/-- the comparison as a value -/
def cmpV : Value := .func (.func 43) #[] #[]
set_option maxHeartbeats 8000000 in
set_option maxRecDepth 100000 in
theorem insertion_any (P D Q : List (List UInt8)) (g n cap a b : Nat) (L : List (Nat × Obj)) (R : List Rw) (W w : World) (h : Kp L (rowS g n cap (P ++ D ++ Q) :: R) W w)
    (ha : P.length = a) (hb : a + D.length = b) (hn : (P ++ D ++ Q).length = n) (hb' : n ≤ 1000000000) :
    Calls Tryd.prog 89 #[.slice (some ⟨g, 0, none⟩) n cap, .int .i64 (a : Int), .int .i64 (b : Int), cmpV] w fun e w' => e = .returned (.tuple #[]) ∧ ∃ C, Stb rk D C ∧ Kp L (rowS g n cap (P ++ C ++ Q) :: R) W w' := by
  have HK := Lib.hid h
  have hl : a + D.length + Q.length = n := by rw [← hn]; simp only [List.length_append]; omega
  have w1 : IntKind.i64.wrap ((a : Int) + 1) = (a : Int) + 1 := IntWalk.i64_in _ (by omega)
  have hab : a ≤ b ∧ b ≤ 1000000000 := by omega
  obtain ⟨hab, hbb⟩ := hab
  have mixed : Tryd.prog.follows Departure.mixedOrders = true := by kernel_rfl
  have CC := Lib.hid (fun x y w => cmp_any x y w)
  unfold cmpV
  by_cases hD : D = []
  · have hba : b = a := by rw [← hb, hD]; simp
    subst hba
    clear h ha hn hl CC
    go_enter Tryd.func89, Tryd.ntmps89
    go_wp2
    refine wp_loop_rounds 1 ?_
    rw [rounds_succ]
    go_wp2
    go_end0
    exact ⟨rfl, [], by rw [hD]; exact Stb.nil, by rw [hD] at HK; exact HK.out⟩
  · obtain ⟨x0, D0, rfl⟩ := List.exists_cons_of_ne_nil hD
    have HL := Lib.hid (And.intro ha (And.intro hb (And.intro hn hl)))
    have hst : Kp L (rowS g n cap (P ++ [x0] ++ (D0 ++ Q)) :: R) W w := by simpa using HK.out
    have HST := Lib.hid hst
    clear h ha hb hn hl HK hst hD
    go_enter Tryd.func89, Tryd.ntmps89
    go_wp2
    go_loopw [8] (fun v8 wr => ∃ (D1 E C : List (List UInt8)) (i : Nat), v8 = .int .i64 (i : Int) ∧ x0 :: D0 = D1 ++ E ∧ a + D1.length = i ∧ 0 < D1.length ∧ Stb rk D1 C ∧ Kp L (rowS g n cap (P ++ C ++ (E ++ Q)) :: R) W wr) (fun v8 _ => b - (intOf v8).toNat)
    case atStart => exact ⟨[x0], D0, [x0], a + 1, by simp, rfl, rfl, by simp, Stb.self (List.pairwise_singleton _ _), HST.out⟩
    case round =>
      obtain ⟨D1, E, C, i, rfl, hD, hi, hD1, hS, hK⟩ := hrel
      clear HST
      obtain ⟨ha, hb, hn, hl⟩ := HL.out
      rw [List.length_cons] at hb hl
      have hlen : D1.length + E.length = D0.length + 1 := by have := congrArg List.length hD; simpa using this.symm
      have hCl := hS.len
      by_cases hib : i < b
      · obtain ⟨x, E', rfl⟩ : ∃ x E', E = x :: E' := List.exists_cons_of_ne_nil (by intro e; rw [e] at hlen; simp at hlen; omega)
        have hin : i < n := by omega
        have hbn : n ≤ 1000000000 := hb'
        have j1 : (i : Int) < (b : Int) := by omega
        have HS := Lib.hid hS
        have HI := Lib.hid (And.intro hi (And.intro hD1 (And.intro hCl hin)))
        have HD := Lib.hid hD
        have HKK := Lib.hid (show Kp L (rowS g n cap (P ++ C ++ x :: ([] ++ (E' ++ Q))) :: R) W wr by simpa using hK)
        have hCi : a + C.length = i := by omega
        have HCi := Lib.hid hCi
        have HA := Lib.hid ha
        clear hS hi hD1 hCl hD hK ha hb hn hl hlen hib hCi
        -- the end of the inner loop
        have fin : ∀ (C1 C2 : List (List UInt8)) (X : World), C = C1 ++ C2 → (∀ z ∈ C1, rk z ≤ rk x) → (∀ z ∈ C2, rk x < rk z) → Kp L (rowS g n cap (P ++ C1 ++ x :: (C2 ++ (E' ++ Q))) :: R) W X →
            ∃ (D1 E C : List (List UInt8)) (i' : Nat), Value.int .i64 ((i + 1 : Nat) : Int) = .int .i64 (i' : Int) ∧ x0 :: D0 = D1 ++ E ∧ a + D1.length = i' ∧ 0 < D1.length ∧ Stb rk D1 C ∧ Kp L (rowS g n cap (P ++ C ++ (E ++ Q)) :: R) W X := by
          intro C1 C2 X hC h1 h2 hK
          refine ⟨D1 ++ [x], E', C1 ++ x :: C2, i + 1, rfl, by rw [HD.out]; simp, by rw [List.length_append]; have := HI.out.1; simp; omega, by simp, HS.out.snoc (by rw [hC]; exact stb_put (by rw [← hC]; exact HS.out.sorted) h1 h2), ?_⟩
          simpa using hK
        have FIN := Lib.hid fin
        clear fin
        have hsort := HS.out.sorted
        have HSo := Lib.hid hsort
        clear hsort
        go_wp2_with fail
        go_loopw [9] (fun v9 wr2 => ∃ (C1 C2 : List (List UInt8)) (j : Nat), v9 = .int .i64 (j : Int) ∧ C = C1 ++ C2 ∧ a + C1.length = j ∧ j ≤ i ∧ (∀ z ∈ C2, rk x < rk z) ∧ Kp L (rowS g n cap (P ++ C1 ++ x :: (C2 ++ (E' ++ Q))) :: R) W wr2) (fun v9 _ => (intOf v9).toNat)
        case atStart => exact ⟨C, [], i, rfl, by simp, HCi.out, by omega, (fun z hz => by cases hz), HKK.out⟩
        case round =>
          obtain ⟨C1, C2, j, rfl, hC, hj, hji, hC2, hK2⟩ := hrel
          clear HKK
          by_cases hja : a < j
          · obtain ⟨C1', c, rfl⟩ : ∃ C1' c, C1 = C1' ++ [c] := ⟨C1.dropLast, C1.getLast (by intro e; rw [e] at hj; simp at hj; omega), (List.dropLast_concat_getLast _).symm⟩
            obtain ⟨jp, hjp⟩ : ∃ q, j - 1 = q := ⟨_, rfl⟩
            have j2 : (a : Int) < (j : Int) := by omega
            have w2 : IntKind.i64.wrap ((j : Int) - 1) = (jp : Int) := by rw [IntWalk.i64_in _ (by omega)]; omega
            have b1 : (j : Int) < (n : Int) := by omega
            have b2 : (jp : Int) < (n : Int) := by omega
            rw [List.length_append, List.length_singleton] at hj
            have hK3 : Kp L (rowS g n cap ((P ++ C1') ++ c :: ([] ++ x :: (C2 ++ (E' ++ Q)))) :: R) W wr := by simpa using hK2
            have l1 : (P ++ C1').length = jp := by rw [List.length_append, HA.out]; omega
            have l2 : (P ++ C1').length + 1 + ([] : List (List UInt8)).length = j := by rw [l1]; simp; omega
            have sw := fun (X : World) (h : Kp L (rowS g n cap ((P ++ C1') ++ c :: ([] ++ x :: (C2 ++ (E' ++ Q)))) :: R) W X) => h.swapR (by omega) l1 l2
            obtain ⟨c1, c2, f1, f2, c3, _⟩ := sw wr hK3
            unfold sv at c1 c2 c3
            obtain ⟨r, hr⟩ : ∃ r, cfL x c = r := ⟨_, rfl⟩
            have CX := Lib.hid (fun w => CC.out x c w)
            rw [hr] at CX
            have hneg := cfL_neg x c
            rw [hr] at hneg
            have HSw := Lib.hid sw
            have HK3 := Lib.hid hK3
            have HC := Lib.hid hC
            have HC2 := Lib.hid hC2
            have HJ := Lib.hid hj
            have HJp := Lib.hid hjp
            have hjb : j ≤ 1000000000 := by omega
            have hj0 : 0 < j := by omega
            clear hK2 hK3 sw l1 l2 c3 f1 f2 hC hC2 hr hj hjp
            obtain ⟨sx, hsx⟩ : ∃ s, bs x = s := ⟨_, rfl⟩
            obtain ⟨sc, hsc⟩ : ∃ s, bs c = s := ⟨_, rfl⟩
            rw [hsx] at c2 CX
            rw [hsc] at c1 CX
            have HSx := Lib.hid hsx
            have HSc := Lib.hid hsc
            clear hsx hsc
            by_cases hlt : rk x < rk c
            · have hv : r < 0 := hneg.2 hlt
              have hd : decide (r < 0) = true := decide_eq_true hv
              clear hneg
              go_upto_region 4 with fail
              go_quiet ((go_at_call 43; exact Calls.quiet_of_same (CX.out _)))
              have hkd := HK3.out.call (below_drewN (Below.refl _ wr) nq) rfl rfl rfl rfl
              obtain ⟨w3, hw3⟩ : ∃ z, wr.drewN nq = z := ⟨_, rfl⟩
              rw [hw3] at hkd ⊢
              clear hw3 c1 c2
              obtain ⟨c1, c2, f1, f2, c3, hk4⟩ := HSw.out w3 hkd
              unfold sv at c1 c2 c3 hk4
              rw [HSc.out] at c1 c3 hk4
              rw [HSx.out] at c2 hk4
              have K4 := Lib.hid hk4
              clear hk4 hkd
              go_upto_region 6 with fail
              go_big_region_o
              go_wp2_with fail
              go_roundw
              case rel =>
                refine ⟨C1', c :: C2, jp, rfl, by rw [HC.out]; simp, by have := HJ.out; have := HJp.out; omega, by have := HJp.out; omega, fun z hz => ?_, by simpa using K4.out.drew⟩
                rcases List.mem_cons.1 hz with rfl | hz
                · exact hlt
                · exact HC2.out z hz
              case measure => have := HJp.out; simp [intOf]; omega
            · have hv : ¬ r < 0 := fun q => hlt (hneg.1 q)
              have hd : decide (r < 0) = false := decide_eq_false hv
              clear hneg
              go_upto_region 4 with fail
              go_quiet ((go_at_call 43; exact Calls.quiet_of_same (CX.out _)))
              go_wp2_with fail
              go_roundw
              case rel =>
                have hs2 := HSo.out
                rw [HC.out] at hs2
                have hs3 := (List.pairwise_append.1 hs2).1
                refine FIN.out (C1' ++ [c]) C2 _ HC.out (fun z hz => ?_) HC2.out ?_
                · rcases List.mem_append.1 hz with hz | hz
                  · have := (List.pairwise_append.1 hs3).2.2 z hz c (List.mem_singleton.2 rfl)
                    omega
                  · rw [List.mem_singleton] at hz
                    rw [hz]
                    omega
                · simpa using HK3.out.call (below_drewN (Below.refl _ wr) nq) rfl rfl rfl rfl
              case measure => simp [intOf]; omega
          · obtain rfl : j = a := by omega
            obtain rfl : C1 = [] := List.length_eq_zero_iff.1 (by omega)
            have j2 : ¬ (j : Int) < (j : Int) := by omega
            have HC := Lib.hid hC
            have HC2 := Lib.hid hC2
            have HK3 := Lib.hid hK2
            have hjb : j ≤ 1000000000 := by omega
            clear hK2 hC hC2
            go_upto_region 4 with fail
            go_quiet (fail)
            go_wp2_with fail
            go_roundw
            case rel => exact FIN.out [] C2 _ HC.out (fun z hz => by cases hz) HC2.out (HK3.out.call (below_drewN (Below.refl _ wr) nq) rfl rfl rfl rfl)
            case measure => simp [intOf]; omega
      · have j1 : ¬ (i : Int) < (b : Int) := by omega
        have hE : E = [] := List.length_eq_zero_iff.1 (by omega)
        have HS := Lib.hid hS
        have HK := Lib.hid hK
        clear hS hK
        go_wp2
        go_end0
        refine ⟨rfl, C, ?_, ?_⟩
        · first | exact HS.out | (rw [hD, hE, List.append_nil]; exact HS.out)
        · have := HK.out
          rw [hE] at this
          simpa using this
end Go.Proofs.YtkfgonbopgdmgaaDoor.Px
