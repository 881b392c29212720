/- The library's insertion sort at zones and at links, by their names. -/
import Derived.Test.YtnffecoohkanhaaDoorYFtC
import Derived.Test.YtnffecoohkanhaaDoorM2
import Derived.Shelf.SlSortCmp.QuietGrown
namespace Go.Proofs.YtnffecoohkanhaaDoor.Px
open Go.RowKit
open Go.Maps (Keyed)
open Lk St Go.Sort

def rowZone (g n cap : Nat) (D : List (Zo)) : Rw := ⟨.slice (some ⟨g, 0, none⟩) n cap, 40, 2, n, D.flatMap zcells⟩
theorem rowZone_at (P : List (Zo)) (x : Zo) (Q : List (Zo)) {i : Nat} (hi : P.length = i) : ((P ++ x :: Q).flatMap zcells)[i * 2]? = (zcells x)[0]? ∧ ((P ++ x :: Q).flatMap zcells)[i * 2 + 1]? = (zcells x)[1]? := by
  have e : (P ++ x :: Q)[i]? = some x := by rw [List.getElem?_append_right (by omega), ← hi, Nat.sub_self]; rfl
  have h0 := flat_at zcells 2 (fun _ => rfl) (P ++ x :: Q) i 0 (by omega)
  have h1 := flat_at zcells 2 (fun _ => rfl) (P ++ x :: Q) i 1 (by omega)
  rw [e] at h0 h1
  exact ⟨h0, h1⟩
theorem rowZone_set (P : List (Zo)) (x y : Zo) (Q : List (Zo)) {i : Nat} (hi : P.length = i) (u v : Value) (huv : zcells y = [u, v]) : (((P ++ x :: Q).flatMap zcells).set (i * 2) u).set (i * 2 + 1) v = (P ++ y :: Q).flatMap zcells := by
  have hl : (P.flatMap zcells).length = i * 2 := by rw [flat_len zcells 2 (fun _ => rfl), hi]
  rw [List.flatMap_append, List.flatMap_cons, List.flatMap_append, List.flatMap_cons, huv]
  obtain ⟨u0, v0, e⟩ : ∃ a b, zcells x = [a, b] := ⟨_, _, rfl⟩
  rw [e, List.set_append_right _ _ (by omega), List.set_append_right _ _ (by omega), hl]
  have e1 : i * 2 - i * 2 = 0 := by omega
  have e2 : i * 2 + 1 - i * 2 = 1 := by omega
  rw [e1, e2]
  rfl
/-- two neighbours are exchanged -/
theorem Kp.swapZone {L : List (Nat × Obj)} {R : List Rw} {W X : World} {g n cap : Nat} {P Q : List (Zo)} {x y : Zo} {i j : Nat} (h : Kp L (rowZone g n cap (P ++ x :: y :: Q) :: R) W X) (hn : 0 < n) (hi : P.length = i) (hj : i + 1 = j) (x0 x1 y0 y1 : Value) (hx : zcells x = [x0, x1]) (hy : zcells y = [y0, y1]) :
    (X.cell? ⟨g, i * 2, none⟩ = some x0 ∧ X.cell? ⟨g, i * 2 + 1, none⟩ = some x1 ∧ X.cell? ⟨g, j * 2, none⟩ = some y0 ∧ X.cell? ⟨g, j * 2 + 1, none⟩ = some y1) ∧
      (∀ a, X.frozen? ⟨g, a, none⟩ = false) ∧ Kp L (rowZone g n cap (P ++ y :: x :: Q) :: R) W ((((X.setCell ⟨g, j * 2, none⟩ x0).setCell ⟨g, j * 2 + 1, none⟩ x1).setCell ⟨g, i * 2, none⟩ y0).setCell ⟨g, i * 2 + 1, none⟩ y1) := by
  subst hj
  have a0 := rowZone_at P x (y :: Q) hi
  have e : P ++ x :: y :: Q = (P ++ [x]) ++ y :: Q := by simp
  have b0 := rowZone_at (P ++ [x]) y Q (i := i + 1) (by simp [hi])
  rw [← e] at b0
  rw [hx] at a0
  rw [hy] at b0
  refine ⟨⟨own_cell (h.row 0 rfl) a0.1, own_cell (h.row 0 rfl) a0.2, own_cell (h.row 0 rfl) b0.1, own_cell (h.row 0 rfl) b0.2⟩, fun a => h.free hn a, ?_⟩
  have h4 := (((h.put hn ((i + 1) * 2) x0).put hn ((i + 1) * 2 + 1) x1).put hn (i * 2) y0).put hn (i * 2 + 1) y1
  have s1 : (((P ++ x :: y :: Q).flatMap zcells).set ((i + 1) * 2) x0).set ((i + 1) * 2 + 1) x1 = (P ++ x :: x :: Q).flatMap zcells := by
    rw [e, rowZone_set (P ++ [x]) y x Q (i := i + 1) (by simp [hi]) x0 x1 hx]
    simp
  have s2 := rowZone_set P x y (x :: Q) hi y0 y1 hy
  rw [s1, s2] at h4
  exact h4
set_option maxHeartbeats 8000000 in
set_option maxRecDepth 100000 in
theorem zone_insertion (rk : Zo → Int) (D : List (Zo)) (hrk : ∀ x ∈ D, ∀ y ∈ D, (x.1 < y.1 ↔ rk x < rk y)) (g n cap fb : Nat) (FT : TypeId) (L : List (Nat × Obj)) (R : List Rw) (W w : World) (h : Kp ((fb, .cells #[.func (.func 39) #[] #[]] FT (0, 0)) :: L) (rowZone g n cap D :: R) W w) (hn : D.length = n) (hn1 : 0 < n) (hb' : n ≤ 1000000) :
    Calls Tryd.prog 84 #[.slice (some ⟨g, 0, none⟩) n cap, .int .i64 0, .int .i64 (n : Int), .func (.func 58) #[] #[.pointer (some ⟨fb, 0, none⟩)]] w fun e w' => e = .returned (.tuple #[]) ∧ ∃ C, Stb rk D C ∧ Kp ((fb, .cells #[.func (.func 39) #[] #[]] FT (0, 0)) :: L) (rowZone g n cap C :: R) W w' := by
  obtain ⟨x0, D0, rfl⟩ := List.exists_cons_of_ne_nil (show D ≠ [] by rintro rfl; simp at hn; omega)
  have hent : ∀ args w, (callFunc 58 args).run Tryd.prog w = .ok (.enter 58 args) w := enters_of Tryd.func58 (by kernel_rfl) rfl
  have mixed : Tryd.prog.follows Departure.mixedOrders = true := by kernel_rfl
  have HL := Lib.hid hn
  have HRK := Lib.hid hrk
  have HST := Lib.hid (show Kp ((fb, .cells #[.func (.func 39) #[] #[]] FT (0, 0)) :: L) (rowZone g n cap ([x0] ++ D0) :: R) W w from h)
  clear h hn hrk
  go_enter Tryd.func84, Tryd.ntmps84
  go_wp2_with fail
  go_loopw [8, 9] (fun v8 _ wr => ∃ (D1 E0 C : List (Zo)) (i : Nat), v8 = .int .i64 (i : Int) ∧ x0 :: D0 = D1 ++ E0 ∧ D1.length = i ∧ 0 < D1.length ∧ Stb rk D1 C ∧ Kp ((fb, .cells #[.func (.func 39) #[] #[]] FT (0, 0)) :: L) (rowZone g n cap (C ++ E0) :: R) W wr) (fun v8 _ _ => n - (intOf v8).toNat)
  case atStart => exact ⟨[x0], D0, [x0], 1, by rfl, rfl, rfl, by simp, Stb.self (List.pairwise_singleton _ _), HST.out⟩
  case round =>
    obtain ⟨D1, E0, C, i, rfl, hD, hi, hD1, hS, hK⟩ := hrel
    clear HST
    have hl := HL.out
    rw [List.length_cons] at hl
    have hlen : D1.length + E0.length = D0.length + 1 := by have := congrArg List.length hD; simpa using this.symm
    have hCl := hS.len
    by_cases hib : i < n
    · obtain ⟨x, E', rfl⟩ : ∃ x E', E0 = x :: E' := List.exists_cons_of_ne_nil (by intro e; rw [e] at hlen; simp at hlen; omega)
      obtain ⟨n2, a2, m2, d2⟩ := x
      have HS := Lib.hid hS
      have HD := Lib.hid hD
      have HI := Lib.hid (And.intro hi (And.intro hD1 hCl))
      have HKK := Lib.hid (show Kp ((fb, .cells #[.func (.func 39) #[] #[]] FT (0, 0)) :: L) (rowZone g n cap (C ++ (n2, a2, m2, d2) :: ([] ++ E')) :: R) W wr by simpa using hK)
      have HMx := Lib.hid (show (n2, a2, m2, d2) ∈ x0 :: D0 by rw [hD]; simp)
      have HMc := Lib.hid (show ∀ c ∈ C, c ∈ x0 :: D0 from fun c hc => by rw [hD]; exact List.mem_append_left _ ((hS.mem c).1 hc))
      have hCi : C.length = i := by omega
      have HCi := Lib.hid hCi
      have FIN := Lib.hid (show ∀ (C1 C2 : List (Zo)) (X : World), C = C1 ++ C2 → (∀ z ∈ C1, rk z ≤ rk (n2, a2, m2, d2)) → (∀ z ∈ C2, rk (n2, a2, m2, d2) < rk z) → Kp ((fb, .cells #[.func (.func 39) #[] #[]] FT (0, 0)) :: L) (rowZone g n cap (C1 ++ (n2, a2, m2, d2) :: (C2 ++ E')) :: R) W X →
          ∃ (D1 E0 C : List (Zo)) (i' : Nat), Value.int .i64 ((i : Int) + 1) = .int .i64 (i' : Int) ∧ x0 :: D0 = D1 ++ E0 ∧ D1.length = i' ∧ 0 < D1.length ∧ Stb rk D1 C ∧ Kp ((fb, .cells #[.func (.func 39) #[] #[]] FT (0, 0)) :: L) (rowZone g n cap (C ++ E0) :: R) W X from fun C1 C2 X hC h1 h2 hK =>
        ⟨D1 ++ [(n2, a2, m2, d2)], E', C1 ++ (n2, a2, m2, d2) :: C2, i + 1, by simp, by rw [HD.out]; simp, by rw [List.length_append]; have := HI.out.1; simp; omega, by simp, HS.out.snoc (by rw [hC]; exact stb_put (by rw [← hC]; exact HS.out.sorted) h1 h2), by simpa using hK⟩)
      have HSo := Lib.hid (HS.out.sorted)
      have hwi : IntKind.i64.wrap ((i : Int) + 1) = (i : Int) + 1 := IntWalk.i64_in _ (by omega)
      obtain ⟨s2, hs2⟩ : ∃ s, bs n2 = s := ⟨_, rfl⟩
      have HS2 := Lib.hid hs2
      clear hs2
      clear hS hD hi hD1 hCl hK hl hlen hCi
      go_wp2_with fail
      go_loopw [9] (fun v9 wr2 => ∃ (C1 C2 : List (Zo)) (j : Nat), v9 = .int .i64 (j : Int) ∧ C = C1 ++ C2 ∧ C1.length = j ∧ j ≤ i ∧ (∀ z ∈ C2, rk (n2, a2, m2, d2) < rk z) ∧ Kp ((fb, .cells #[.func (.func 39) #[] #[]] FT (0, 0)) :: L) (rowZone g n cap (C1 ++ (n2, a2, m2, d2) :: (C2 ++ E')) :: R) W wr2) (fun v9 _ => (intOf v9).toNat)
      case atStart => exact ⟨C, [], i, rfl, by simp, HCi.out, by omega, (fun z hz => by cases hz), HKK.out⟩
      case round =>
        obtain ⟨C1, C2, j, rfl, hC, hj, hji, hC2, hK2⟩ := hrel
        clear HKK
        have HC := Lib.hid hC
        have HC2 := Lib.hid hC2
        by_cases hja : 0 < j
        · obtain ⟨C1', c, rfl⟩ : ∃ C1' c, C1 = C1' ++ [c] := ⟨C1.dropLast, C1.getLast (by intro e; rw [e] at hj; simp at hj; omega), (List.dropLast_concat_getLast _).symm⟩
          obtain ⟨n1, a1, m1, d1⟩ := c
          obtain ⟨jp, rfl⟩ : ∃ q, j = q + 1 := ⟨j - 1, by omega⟩
          have l1 : C1'.length = jp := by rw [List.length_append, List.length_singleton] at hj; omega
          have hcx := HRK.out _ HMx.out _ (HMc.out (n1, a1, m1, d1) (by rw [hC]; simp))
          have hK3 : Kp ((fb, .cells #[.func (.func 39) #[] #[]] FT (0, 0)) :: L) (rowZone g n cap (C1' ++ (n1, a1, m1, d1) :: (n2, a2, m2, d2) :: (C2 ++ E')) :: R) W wr := by simpa using hK2
          have HK3 := Lib.hid hK3
          have HJ := Lib.hid l1
          have hn2 : jp + 1 < n := by omega
          obtain ⟨r, hr⟩ : ∃ r, cmpN n2 n1 = r := ⟨_, rfl⟩
          have hneg := cmpN_neg n2 n1
          rw [hr] at hneg
          have hneg2 : r < 0 ↔ rk (n2, a2, m2, d2) < rk (n1, a1, m1, d1) := hneg.trans hcx
          have w2 : IntKind.i64.wrap (((jp : Int) + 1) - 1) = (jp : Int) := by rw [show ((jp : Int) + 1) - 1 = (jp : Int) by omega]; exact IntWalk.i64_in _ (by omega)
          have w3 : IntKind.i64.wrap (jp : Int) = (jp : Int) := IntWalk.i64_in _ (by omega)
          have b1 : (jp : Int) + 1 < (n : Int) := by omega
          have b2 : (jp : Int) < (n : Int) := by omega
          have b3 : ((jp : Int) + 1).toNat = jp + 1 := by omega
          have b4 : (0 : Int) ≤ (jp : Int) + 1 := by omega
          have b5 : (0 : Int) < (jp : Int) + 1 := by omega
          obtain ⟨s1, hs1⟩ : ∃ s, bs n1 = s := ⟨_, rfl⟩
          have HS1 := Lib.hid hs1
          clear hs1
          have SW := Lib.hid (fun (Y : World) (h : Kp ((fb, .cells #[.func (.func 39) #[] #[]] FT (0, 0)) :: L) (rowZone g n cap (C1' ++ (n1, a1, m1, d1) :: (n2, a2, m2, d2) :: (C2 ++ E')) :: R) W Y) => h.swapZone hn1 l1 rfl _ _ _ _ (show zcells (n1, a1, m1, d1) = [.string s1, .slice a1 m1 d1] from by rw [← HS1.out]; rfl) (show zcells (n2, a2, m2, d2) = [.string s2, .slice a2 m2 d2] from by rw [← HS2.out]; rfl))
          have CX := Lib.hid (fun (Y : World) (hc : Y.cell? ⟨fb, 0, none⟩ = some (.func (.func 39) #[] #[])) => zone_cmp s2 a2 m2 d2 s1 a1 m1 d1 n2 n1 HS2.out HS1.out fb Y hc)
          rw [hr] at CX
          clear hK2 hK3 hC hC2 hj l1 hr hneg hcx
          obtain ⟨⟨p0, p1, p2, p3⟩, _, _⟩ := SW.out _ HK3.out
          have hgw : g < wr.heap.size := block_lt_of_cell p0
          have q0 := cell_grown hgw p0
          have q1 := cell_grown hgw p1
          have q2 := cell_grown hgw p2
          have q3 := cell_grown hgw p3
          have hfb := cell_grown (HK3.out.lt 0 rfl) (cells_at (HK3.out.at 0 rfl) 0)
          clear p0 p1 p2 p3
          by_cases hlt : rk (n2, a2, m2, d2) < rk (n1, a1, m1, d1)
          · have hv : r < 0 := hneg2.2 hlt
            have HLt := Lib.hid hlt
            clear hneg2 hlt
            go_upto_region 4 with fail
            go_quiet_grown (first | (go_at_call 58; refine Calls.grown_of (CX.out _ (hfb _ _))))
            have K6 := Lib.hid (HK3.out.keep (Lib.below_grow _ _ (Nat.le_refl _) nq osq))
            obtain ⟨X6, hX6⟩ : ∃ Y, grow (wr.drewN nq) osq = Y := ⟨_, rfl⟩
            rw [hX6] at K6 ⊢
            clear hX6 q0 q1 q2 q3 hfb
            obtain ⟨⟨q0, q1, q2, q3⟩, hfz, hk4⟩ := SW.out _ K6.out
            have f0 := hfz (jp * 2)
            have f1 := hfz (jp * 2 + 1)
            have f2 := hfz ((jp + 1) * 2)
            have f3 := hfz ((jp + 1) * 2 + 1)
            have K4 := Lib.hid hk4
            clear hk4 hfz
            go_upto_region 6 with fail
            go_big_region_o
            go_wp2_with fail
            go_roundw
            case rel =>
              refine ⟨C1', (n1, a1, m1, d1) :: C2, jp, by simp, by rw [HC.out]; simp, HJ.out, by omega, fun z hz => ?_, by simpa using K4.out.drew⟩
              rcases List.mem_cons.1 hz with rfl | hz
              · exact HLt.out
              · exact HC2.out z hz
            case measure => simp [intOf]
          · have hv : ¬ r < 0 := fun q => hlt (hneg2.1 q)
            have HLt := Lib.hid hlt
            clear hneg2 hlt
            go_upto_region 4 with fail
            go_quiet_grown (first | (go_at_call 58; refine Calls.grown_of (CX.out _ (hfb _ _))))
            have K6 := Lib.hid (HK3.out.keep (Lib.below_grow _ _ (Nat.le_refl _) nq osq))
            obtain ⟨X6, hX6⟩ : ∃ Y, grow (wr.drewN nq) osq = Y := ⟨_, rfl⟩
            rw [hX6] at K6 ⊢
            clear hX6 q0 q1 q2 q3 hfb
            go_wp2_with fail
            go_roundw
            case rel =>
              have hs2 := HSo.out
              rw [HC.out] at hs2
              have hs3 := (List.pairwise_append.1 hs2).1
              refine FIN.out (C1' ++ [(n1, a1, m1, d1)]) C2 _ HC.out (fun z hz => ?_) HC2.out (by simpa using K6.out)
              have hlt := HLt.out
              rcases List.mem_append.1 hz with hz | hz
              · have := (List.pairwise_append.1 hs3).2.2 z hz (n1, a1, m1, d1) (List.mem_singleton.2 rfl)
                omega
              · rw [List.mem_singleton] at hz
                rw [hz]
                omega
            case measure => simp [intOf]; omega
        · obtain rfl : j = 0 := by omega
          obtain rfl : C1 = [] := List.length_eq_zero_iff.1 hj
          have HK3 := Lib.hid hK2
          clear hK2 hC hC2
          go_upto_region 4 with fail
          go_quiet (fail)
          go_wp2_with fail
          go_roundw
          case rel => exact FIN.out [] C2 _ HC.out (fun z hz => by cases hz) HC2.out (HK3.out.keep (below_drewN (Below.refl _ _) nq))
          case measure => simp [intOf]; omega
    · have hE : E0 = [] := List.length_eq_zero_iff.1 (by omega)
      have HS := Lib.hid hS
      have HK := Lib.hid hK
      have HD := Lib.hid hD
      have hnl : ¬ (i : Int) < (n : Int) := by omega
      clear hS hK hD
      go_wp2_with fail
      go_end0
      refine ⟨rfl, C, ?_, ?_⟩
      · rw [HD.out, hE, List.append_nil]
        exact HS.out
      · have := HK.out
        rw [hE, List.append_nil] at this
        exact this
def rowLink (g n cap : Nat) (D : List (List UInt8 × List UInt8)) : Rw := ⟨.slice (some ⟨g, 0, none⟩) n cap, 43, 2, n, D.flatMap kcells⟩
theorem rowLink_at (P : List (List UInt8 × List UInt8)) (x : List UInt8 × List UInt8) (Q : List (List UInt8 × List UInt8)) {i : Nat} (hi : P.length = i) : ((P ++ x :: Q).flatMap kcells)[i * 2]? = (kcells x)[0]? ∧ ((P ++ x :: Q).flatMap kcells)[i * 2 + 1]? = (kcells x)[1]? := by
  have e : (P ++ x :: Q)[i]? = some x := by rw [List.getElem?_append_right (by omega), ← hi, Nat.sub_self]; rfl
  have h0 := flat_at kcells 2 (fun _ => rfl) (P ++ x :: Q) i 0 (by omega)
  have h1 := flat_at kcells 2 (fun _ => rfl) (P ++ x :: Q) i 1 (by omega)
  rw [e] at h0 h1
  exact ⟨h0, h1⟩
theorem rowLink_set (P : List (List UInt8 × List UInt8)) (x y : List UInt8 × List UInt8) (Q : List (List UInt8 × List UInt8)) {i : Nat} (hi : P.length = i) (u v : Value) (huv : kcells y = [u, v]) : (((P ++ x :: Q).flatMap kcells).set (i * 2) u).set (i * 2 + 1) v = (P ++ y :: Q).flatMap kcells := by
  have hl : (P.flatMap kcells).length = i * 2 := by rw [flat_len kcells 2 (fun _ => rfl), hi]
  rw [List.flatMap_append, List.flatMap_cons, List.flatMap_append, List.flatMap_cons, huv]
  obtain ⟨u0, v0, e⟩ : ∃ a b, kcells x = [a, b] := ⟨_, _, rfl⟩
  rw [e, List.set_append_right _ _ (by omega), List.set_append_right _ _ (by omega), hl]
  have e1 : i * 2 - i * 2 = 0 := by omega
  have e2 : i * 2 + 1 - i * 2 = 1 := by omega
  rw [e1, e2]
  rfl
/-- two neighbours are exchanged -/
theorem Kp.swapLink {L : List (Nat × Obj)} {R : List Rw} {W X : World} {g n cap : Nat} {P Q : List (List UInt8 × List UInt8)} {x y : List UInt8 × List UInt8} {i j : Nat} (h : Kp L (rowLink g n cap (P ++ x :: y :: Q) :: R) W X) (hn : 0 < n) (hi : P.length = i) (hj : i + 1 = j) (x0 x1 y0 y1 : Value) (hx : kcells x = [x0, x1]) (hy : kcells y = [y0, y1]) :
    (X.cell? ⟨g, i * 2, none⟩ = some x0 ∧ X.cell? ⟨g, i * 2 + 1, none⟩ = some x1 ∧ X.cell? ⟨g, j * 2, none⟩ = some y0 ∧ X.cell? ⟨g, j * 2 + 1, none⟩ = some y1) ∧
      (∀ a, X.frozen? ⟨g, a, none⟩ = false) ∧ Kp L (rowLink g n cap (P ++ y :: x :: Q) :: R) W ((((X.setCell ⟨g, j * 2, none⟩ x0).setCell ⟨g, j * 2 + 1, none⟩ x1).setCell ⟨g, i * 2, none⟩ y0).setCell ⟨g, i * 2 + 1, none⟩ y1) := by
  subst hj
  have a0 := rowLink_at P x (y :: Q) hi
  have e : P ++ x :: y :: Q = (P ++ [x]) ++ y :: Q := by simp
  have b0 := rowLink_at (P ++ [x]) y Q (i := i + 1) (by simp [hi])
  rw [← e] at b0
  rw [hx] at a0
  rw [hy] at b0
  refine ⟨⟨own_cell (h.row 0 rfl) a0.1, own_cell (h.row 0 rfl) a0.2, own_cell (h.row 0 rfl) b0.1, own_cell (h.row 0 rfl) b0.2⟩, fun a => h.free hn a, ?_⟩
  have h4 := (((h.put hn ((i + 1) * 2) x0).put hn ((i + 1) * 2 + 1) x1).put hn (i * 2) y0).put hn (i * 2 + 1) y1
  have s1 : (((P ++ x :: y :: Q).flatMap kcells).set ((i + 1) * 2) x0).set ((i + 1) * 2 + 1) x1 = (P ++ x :: x :: Q).flatMap kcells := by
    rw [e, rowLink_set (P ++ [x]) y x Q (i := i + 1) (by simp [hi]) x0 x1 hx]
    simp
  have s2 := rowLink_set P x y (x :: Q) hi y0 y1 hy
  rw [s1, s2] at h4
  exact h4
set_option maxHeartbeats 8000000 in
set_option maxRecDepth 100000 in
theorem link_insertion (rk : List UInt8 × List UInt8 → Int) (D : List (List UInt8 × List UInt8)) (hrk : ∀ x ∈ D, ∀ y ∈ D, (x.1 < y.1 ↔ rk x < rk y)) (g n cap fb : Nat) (FT : TypeId) (L : List (Nat × Obj)) (R : List Rw) (W w : World) (h : Kp ((fb, .cells #[.func (.func 41) #[] #[]] FT (0, 0)) :: L) (rowLink g n cap D :: R) W w) (hn : D.length = n) (hn1 : 0 < n) (hb' : n ≤ 1000000) :
    Calls Tryd.prog 86 #[.slice (some ⟨g, 0, none⟩) n cap, .int .i64 0, .int .i64 (n : Int), .func (.func 61) #[] #[.pointer (some ⟨fb, 0, none⟩)]] w fun e w' => e = .returned (.tuple #[]) ∧ ∃ C, Stb rk D C ∧ Kp ((fb, .cells #[.func (.func 41) #[] #[]] FT (0, 0)) :: L) (rowLink g n cap C :: R) W w' := by
  obtain ⟨x0, D0, rfl⟩ := List.exists_cons_of_ne_nil (show D ≠ [] by rintro rfl; simp at hn; omega)
  have hent : ∀ args w, (callFunc 61 args).run Tryd.prog w = .ok (.enter 61 args) w := enters_of Tryd.func61 (by kernel_rfl) rfl
  have mixed : Tryd.prog.follows Departure.mixedOrders = true := by kernel_rfl
  have HL := Lib.hid hn
  have HRK := Lib.hid hrk
  have HST := Lib.hid (show Kp ((fb, .cells #[.func (.func 41) #[] #[]] FT (0, 0)) :: L) (rowLink g n cap ([x0] ++ D0) :: R) W w from h)
  clear h hn hrk
  go_enter Tryd.func86, Tryd.ntmps86
  go_wp2_with fail
  go_loopw [8, 9] (fun v8 _ wr => ∃ (D1 E0 C : List (List UInt8 × List UInt8)) (i : Nat), v8 = .int .i64 (i : Int) ∧ x0 :: D0 = D1 ++ E0 ∧ D1.length = i ∧ 0 < D1.length ∧ Stb rk D1 C ∧ Kp ((fb, .cells #[.func (.func 41) #[] #[]] FT (0, 0)) :: L) (rowLink g n cap (C ++ E0) :: R) W wr) (fun v8 _ _ => n - (intOf v8).toNat)
  case atStart => exact ⟨[x0], D0, [x0], 1, by rfl, rfl, rfl, by simp, Stb.self (List.pairwise_singleton _ _), HST.out⟩
  case round =>
    obtain ⟨D1, E0, C, i, rfl, hD, hi, hD1, hS, hK⟩ := hrel
    clear HST
    have hl := HL.out
    rw [List.length_cons] at hl
    have hlen : D1.length + E0.length = D0.length + 1 := by have := congrArg List.length hD; simpa using this.symm
    have hCl := hS.len
    by_cases hib : i < n
    · obtain ⟨x, E', rfl⟩ : ∃ x E', E0 = x :: E' := List.exists_cons_of_ne_nil (by intro e; rw [e] at hlen; simp at hlen; omega)
      obtain ⟨n2, m2⟩ := x
      have HS := Lib.hid hS
      have HD := Lib.hid hD
      have HI := Lib.hid (And.intro hi (And.intro hD1 hCl))
      have HKK := Lib.hid (show Kp ((fb, .cells #[.func (.func 41) #[] #[]] FT (0, 0)) :: L) (rowLink g n cap (C ++ (n2, m2) :: ([] ++ E')) :: R) W wr by simpa using hK)
      have HMx := Lib.hid (show (n2, m2) ∈ x0 :: D0 by rw [hD]; simp)
      have HMc := Lib.hid (show ∀ c ∈ C, c ∈ x0 :: D0 from fun c hc => by rw [hD]; exact List.mem_append_left _ ((hS.mem c).1 hc))
      have hCi : C.length = i := by omega
      have HCi := Lib.hid hCi
      have FIN := Lib.hid (show ∀ (C1 C2 : List (List UInt8 × List UInt8)) (X : World), C = C1 ++ C2 → (∀ z ∈ C1, rk z ≤ rk (n2, m2)) → (∀ z ∈ C2, rk (n2, m2) < rk z) → Kp ((fb, .cells #[.func (.func 41) #[] #[]] FT (0, 0)) :: L) (rowLink g n cap (C1 ++ (n2, m2) :: (C2 ++ E')) :: R) W X →
          ∃ (D1 E0 C : List (List UInt8 × List UInt8)) (i' : Nat), Value.int .i64 ((i : Int) + 1) = .int .i64 (i' : Int) ∧ x0 :: D0 = D1 ++ E0 ∧ D1.length = i' ∧ 0 < D1.length ∧ Stb rk D1 C ∧ Kp ((fb, .cells #[.func (.func 41) #[] #[]] FT (0, 0)) :: L) (rowLink g n cap (C ++ E0) :: R) W X from fun C1 C2 X hC h1 h2 hK =>
        ⟨D1 ++ [(n2, m2)], E', C1 ++ (n2, m2) :: C2, i + 1, by simp, by rw [HD.out]; simp, by rw [List.length_append]; have := HI.out.1; simp; omega, by simp, HS.out.snoc (by rw [hC]; exact stb_put (by rw [← hC]; exact HS.out.sorted) h1 h2), by simpa using hK⟩)
      have HSo := Lib.hid (HS.out.sorted)
      have hwi : IntKind.i64.wrap ((i : Int) + 1) = (i : Int) + 1 := IntWalk.i64_in _ (by omega)
      obtain ⟨s2, hs2⟩ : ∃ s, bs n2 = s := ⟨_, rfl⟩
      have HS2 := Lib.hid hs2
      obtain ⟨t2, ht2⟩ : ∃ s, bs m2 = s := ⟨_, rfl⟩
      have HT2 := Lib.hid ht2
      clear hs2 ht2
      clear hS hD hi hD1 hCl hK hl hlen hCi
      go_wp2_with fail
      go_loopw [9] (fun v9 wr2 => ∃ (C1 C2 : List (List UInt8 × List UInt8)) (j : Nat), v9 = .int .i64 (j : Int) ∧ C = C1 ++ C2 ∧ C1.length = j ∧ j ≤ i ∧ (∀ z ∈ C2, rk (n2, m2) < rk z) ∧ Kp ((fb, .cells #[.func (.func 41) #[] #[]] FT (0, 0)) :: L) (rowLink g n cap (C1 ++ (n2, m2) :: (C2 ++ E')) :: R) W wr2) (fun v9 _ => (intOf v9).toNat)
      case atStart => exact ⟨C, [], i, rfl, by simp, HCi.out, by omega, (fun z hz => by cases hz), HKK.out⟩
      case round =>
        obtain ⟨C1, C2, j, rfl, hC, hj, hji, hC2, hK2⟩ := hrel
        clear HKK
        have HC := Lib.hid hC
        have HC2 := Lib.hid hC2
        by_cases hja : 0 < j
        · obtain ⟨C1', c, rfl⟩ : ∃ C1' c, C1 = C1' ++ [c] := ⟨C1.dropLast, C1.getLast (by intro e; rw [e] at hj; simp at hj; omega), (List.dropLast_concat_getLast _).symm⟩
          obtain ⟨n1, m1⟩ := c
          obtain ⟨jp, rfl⟩ : ∃ q, j = q + 1 := ⟨j - 1, by omega⟩
          have l1 : C1'.length = jp := by rw [List.length_append, List.length_singleton] at hj; omega
          have hcx := HRK.out _ HMx.out _ (HMc.out (n1, m1) (by rw [hC]; simp))
          have hK3 : Kp ((fb, .cells #[.func (.func 41) #[] #[]] FT (0, 0)) :: L) (rowLink g n cap (C1' ++ (n1, m1) :: (n2, m2) :: (C2 ++ E')) :: R) W wr := by simpa using hK2
          have HK3 := Lib.hid hK3
          have HJ := Lib.hid l1
          have hn2 : jp + 1 < n := by omega
          obtain ⟨r, hr⟩ : ∃ r, cmpN n2 n1 = r := ⟨_, rfl⟩
          have hneg := cmpN_neg n2 n1
          rw [hr] at hneg
          have hneg2 : r < 0 ↔ rk (n2, m2) < rk (n1, m1) := hneg.trans hcx
          have w2 : IntKind.i64.wrap (((jp : Int) + 1) - 1) = (jp : Int) := by rw [show ((jp : Int) + 1) - 1 = (jp : Int) by omega]; exact IntWalk.i64_in _ (by omega)
          have w3 : IntKind.i64.wrap (jp : Int) = (jp : Int) := IntWalk.i64_in _ (by omega)
          have b1 : (jp : Int) + 1 < (n : Int) := by omega
          have b2 : (jp : Int) < (n : Int) := by omega
          have b3 : ((jp : Int) + 1).toNat = jp + 1 := by omega
          have b4 : (0 : Int) ≤ (jp : Int) + 1 := by omega
          have b5 : (0 : Int) < (jp : Int) + 1 := by omega
          obtain ⟨s1, hs1⟩ : ∃ s, bs n1 = s := ⟨_, rfl⟩
          have HS1 := Lib.hid hs1
          obtain ⟨t1, ht1⟩ : ∃ s, bs m1 = s := ⟨_, rfl⟩
          have HT1 := Lib.hid ht1
          clear hs1 ht1
          have SW := Lib.hid (fun (Y : World) (h : Kp ((fb, .cells #[.func (.func 41) #[] #[]] FT (0, 0)) :: L) (rowLink g n cap (C1' ++ (n1, m1) :: (n2, m2) :: (C2 ++ E')) :: R) W Y) => h.swapLink hn1 l1 rfl _ _ _ _ (show kcells (n1, m1) = [.string t1, .string s1] from by rw [← HS1.out, ← HT1.out]; rfl) (show kcells (n2, m2) = [.string t2, .string s2] from by rw [← HS2.out, ← HT2.out]; rfl))
          have CX := Lib.hid (fun (Y : World) (hc : Y.cell? ⟨fb, 0, none⟩ = some (.func (.func 41) #[] #[])) => link_cmp t2 s2 t1 s1 n2 n1 HS2.out HS1.out fb Y hc)
          rw [hr] at CX
          clear hK2 hK3 hC hC2 hj l1 hr hneg hcx
          obtain ⟨⟨p0, p1, p2, p3⟩, _, _⟩ := SW.out _ HK3.out
          have hgw : g < wr.heap.size := block_lt_of_cell p0
          have q0 := cell_grown hgw p0
          have q1 := cell_grown hgw p1
          have q2 := cell_grown hgw p2
          have q3 := cell_grown hgw p3
          have hfb := cell_grown (HK3.out.lt 0 rfl) (cells_at (HK3.out.at 0 rfl) 0)
          clear p0 p1 p2 p3
          by_cases hlt : rk (n2, m2) < rk (n1, m1)
          · have hv : r < 0 := hneg2.2 hlt
            have HLt := Lib.hid hlt
            clear hneg2 hlt
            go_upto_region 4 with fail
            go_quiet_grown (first | (go_at_call 61; refine Calls.grown_of (CX.out _ (hfb _ _))))
            have K6 := Lib.hid (HK3.out.keep (Lib.below_grow _ _ (Nat.le_refl _) nq osq))
            obtain ⟨X6, hX6⟩ : ∃ Y, grow (wr.drewN nq) osq = Y := ⟨_, rfl⟩
            rw [hX6] at K6 ⊢
            clear hX6 q0 q1 q2 q3 hfb
            obtain ⟨⟨q0, q1, q2, q3⟩, hfz, hk4⟩ := SW.out _ K6.out
            have f0 := hfz (jp * 2)
            have f1 := hfz (jp * 2 + 1)
            have f2 := hfz ((jp + 1) * 2)
            have f3 := hfz ((jp + 1) * 2 + 1)
            have K4 := Lib.hid hk4
            clear hk4 hfz
            go_upto_region 6 with fail
            go_big_region_o
            go_wp2_with fail
            go_roundw
            case rel =>
              refine ⟨C1', (n1, m1) :: C2, jp, by simp, by rw [HC.out]; simp, HJ.out, by omega, fun z hz => ?_, by simpa using K4.out.drew⟩
              rcases List.mem_cons.1 hz with rfl | hz
              · exact HLt.out
              · exact HC2.out z hz
            case measure => simp [intOf]
          · have hv : ¬ r < 0 := fun q => hlt (hneg2.1 q)
            have HLt := Lib.hid hlt
            clear hneg2 hlt
            go_upto_region 4 with fail
            go_quiet_grown (first | (go_at_call 61; refine Calls.grown_of (CX.out _ (hfb _ _))))
            have K6 := Lib.hid (HK3.out.keep (Lib.below_grow _ _ (Nat.le_refl _) nq osq))
            obtain ⟨X6, hX6⟩ : ∃ Y, grow (wr.drewN nq) osq = Y := ⟨_, rfl⟩
            rw [hX6] at K6 ⊢
            clear hX6 q0 q1 q2 q3 hfb
            go_wp2_with fail
            go_roundw
            case rel =>
              have hs2 := HSo.out
              rw [HC.out] at hs2
              have hs3 := (List.pairwise_append.1 hs2).1
              refine FIN.out (C1' ++ [(n1, m1)]) C2 _ HC.out (fun z hz => ?_) HC2.out (by simpa using K6.out)
              have hlt := HLt.out
              rcases List.mem_append.1 hz with hz | hz
              · have := (List.pairwise_append.1 hs3).2.2 z hz (n1, m1) (List.mem_singleton.2 rfl)
                omega
              · rw [List.mem_singleton] at hz
                rw [hz]
                omega
            case measure => simp [intOf]; omega
        · obtain rfl : j = 0 := by omega
          obtain rfl : C1 = [] := List.length_eq_zero_iff.1 hj
          have HK3 := Lib.hid hK2
          clear hK2 hC hC2
          go_upto_region 4 with fail
          go_quiet (fail)
          go_wp2_with fail
          go_roundw
          case rel => exact FIN.out [] C2 _ HC.out (fun z hz => by cases hz) HC2.out (HK3.out.keep (below_drewN (Below.refl _ _) nq))
          case measure => simp [intOf]; omega
    · have hE : E0 = [] := List.length_eq_zero_iff.1 (by omega)
      have HS := Lib.hid hS
      have HK := Lib.hid hK
      have HD := Lib.hid hD
      have hnl : ¬ (i : Int) < (n : Int) := by omega
      clear hS hK hD
      go_wp2_with fail
      go_end0
      refine ⟨rfl, C, ?_, ?_⟩
      · rw [HD.out, hE, List.append_nil]
        exact HS.out
      · have := HK.out
        rw [hE, List.append_nil] at this
        exact this
end Go.Proofs.YtnffecoohkanhaaDoor.Px
