/- slices.IsSortedFunc at zones and at links, with the comparisons of FlattenOrder: true of what is in order. -/
import Derived.Test.YtnffecoohkanhaaDoorM18
import Derived.Test.YtnffecoohkanhaaDoorM8
import Derived.Deep.DeepCutAuto
namespace Go.Proofs.YtnffecoohkanhaaDoor.Px
open Go.RowKit
open Lk Py

theorem compare_ge : ∀ (x y : List UInt8), ¬ x < y → 0 ≤ Lib.compareBytes x y
  | [], [], _ => by decide
  | [], _ :: _, h => absurd (List.nil_lt_cons _ _) h
  | _ :: _, [], _ => by unfold Lib.compareBytes; decide
  | a :: r, b :: l, h => by
    unfold Lib.compareBytes
    split
    · next hab => exact absurd (List.cons_lt_cons_iff.2 (.inl hab)) h
    · split
      · decide
      · next h1 h2 =>
        have e : a = b := UInt8.le_antisymm (UInt8.not_lt.1 h2) (UInt8.not_lt.1 h1)
        exact compare_ge r l fun q => h (List.cons_lt_cons_iff.2 (.inr ⟨e, q⟩))
/-- what a slot of the region holds: a value -/
def veS (l : List Value) (base : Nat) (d : Nat) (_ : World) (v : Value) : Prop := v = l.getD (d - base) undef
set_option maxHeartbeats 4000000 in
set_option maxRecDepth 100000 in
theorem zone_order (sx : ByteArray) (ax : Option Addr) (nx cx : Nat) (sy : ByteArray) (ay : Option Addr) (ny cy : Nat) (W : World) :
    Calls Tryd.prog 23 #[.agg #[.string sx, .slice ax nx cx], .agg #[.string sy, .slice ay ny cy]] W fun e w' => e = .returned (.int .i64 (Lib.compareBytes sx.data.toList sy.data.toList)) ∧ Below W.heap.size W w' := by
  have K0 := Lib.hid (((Kp.start W).allocAt W.heap.size rfl (.cells #[.string sx, .slice ax nx cx] 40)).allocAt (W.heap.size + 1) (by simp) (.cells #[.string sy, .slice ay ny cy] 40))
  have CC := Lib.hid (fun (Y : World) => Tryd.strings_Compare sx sy Y)
  obtain ⟨r, hr⟩ : ∃ r, Lib.compareBytes sx.data.toList sy.data.toList = r := ⟨_, rfl⟩
  rw [hr] at CC ⊢
  obtain ⟨x0, x1⟩ := row2 (K0.out.at 1 rfl)
  obtain ⟨y0, y1⟩ := row2 (K0.out.at 0 rfl)
  clear hr
  go_enter Tryd.func23, Tryd.ntmps23
  go_wp2_with (first | (go_at_call 24; refine (CC.out _).mono ?_; rintro e X ⟨rfl, rfl⟩))
  exact bodyPost_ret (v := .int .i64 r) (by simp [results, Tryd.results23, go_sem]) rfl ⟨rfl, K0.out.below⟩
set_option maxHeartbeats 4000000 in
set_option maxRecDepth 100000 in
theorem zones_ordered (A : List (Zo)) (v : Value) (W : World) (hA : SlV W v 2 A.length (A.flatMap zcells)) (hs : ∀ (i : Nat) (x y : Zo), A[i]? = some x → A[i + 1]? = some y → ¬ y.1 < x.1) (hm : A.length ≤ 1000) :
    Calls Tryd.prog 22 #[v, .func (.func 23) #[] #[]] W fun e w' => e = .returned (.bool true) ∧ Below W.heap.size W w' := by
  by_cases h0 : 0 < A.length
  · obtain ⟨b, o, c, rfl, hc1, hc2, hb, hcell⟩ := hA.allA h0
    obtain ⟨n, hn⟩ : ∃ n, A.length = n := ⟨_, rfl⟩
    rw [hn] at hc1 hm ⊢
    unfold maxLen at hc2
    have HN := Lib.hid hn
    have HI := Lib.hid hs
    have HC := Lib.hid hcell
    have hn0 : 0 < n := by omega
    obtain ⟨p, hp⟩ : ∃ p, n = p + 1 := ⟨n - 1, by omega⟩
    have hw1 : IntKind.i64.wrap ((n : Int) - 1) = (p : Int) := by rw [show (n : Int) - 1 = (p : Int) by omega]; exact IntWalk.i64_in _ (by omega)
    have hnI : (n : Int) - 1 = (p : Int) := by omega
    have HP := Lib.hid hp
    have mixed : Tryd.prog.follows Departure.mixedOrders = true := by kernel_rfl
    clear hA hs hcell hn h0 hp
    go_enter Tryd.func22, Tryd.ntmps22
    go_wp2_with fail
    go_loopw [5] (fun v5 wr => ∃ i : Nat, i < n ∧ v5 = .int .i64 (i : Int) ∧ Below W.heap.size W wr) (fun v5 _ => (intOf v5).toNat)
    case atStart => exact ⟨p, by have := HP.out; omega, by simp, Below.refl _ _⟩
    case round =>
      obtain ⟨i, hi, rfl, hbe⟩ := hrel
      have HBe := Lib.hid hbe
      clear hbe
      by_cases hlt : 0 < i
      · obtain ⟨j, rfl⟩ : ∃ j, i = j + 1 := ⟨i - 1, by omega⟩
        obtain ⟨x, hx⟩ : ∃ x, A[j + 1]? = some x := ⟨_, List.getElem?_eq_getElem (by rw [HN.out]; exact hi)⟩
        obtain ⟨y, hy⟩ : ∃ y, A[j]? = some y := ⟨_, List.getElem?_eq_getElem (by rw [HN.out]; omega)⟩
        have hyx := HI.out j y x hy hx
        have kx0 := HC.out _ _ (zo_at A hx).1
        have kx1 := HC.out _ _ (zo_at A hx).2
        have ky0 := HC.out _ _ (zo_at A hy).1
        have ky1 := HC.out _ _ (zo_at A hy).2
        obtain ⟨nx, ax, kx, cx⟩ := x
        obtain ⟨ny, ay, ky, cy⟩ := y
        dsimp only at kx0 kx1 ky0 ky1 hyx
        simp only [Nat.add_zero, ← Nat.add_assoc] at kx0 kx1 ky0 ky1
        obtain ⟨sx, hsx⟩ : ∃ s, bs nx = s := ⟨_, rfl⟩
        obtain ⟨sy, hsy⟩ : ∃ s, bs ny = s := ⟨_, rfl⟩
        rw [hsx] at kx0
        rw [hsy] at ky0
        have hbw : b < wr.heap.size := Nat.lt_of_lt_of_le hb HBe.out.size
        have KX0 := Lib.hid (fun (Y : World) (hB : Below wr.heap.size wr Y) => ((HBe.out.trans (hB.mono HBe.out.size)).cell (by exact hb)).trans kx0)
        have KX1 := Lib.hid (fun (Y : World) (hB : Below wr.heap.size wr Y) => ((HBe.out.trans (hB.mono HBe.out.size)).cell (by exact hb)).trans kx1)
        have KY0 := Lib.hid (fun (Y : World) (hB : Below wr.heap.size wr Y) => ((HBe.out.trans (hB.mono HBe.out.size)).cell (by exact hb)).trans ky0)
        have KY1 := Lib.hid (fun (Y : World) (hB : Below wr.heap.size wr Y) => ((HBe.out.trans (hB.mono HBe.out.size)).cell (by exact hb)).trans ky1)
        obtain ⟨r, hr⟩ : ∃ r, Lib.compareBytes sx.data.toList sy.data.toList = r := ⟨_, rfl⟩
        have hr0 : 0 ≤ r := by
          rw [← hr, ← hsx, ← hsy]
          exact compare_ge _ _ hyx
        have CO := Lib.hid (fun (Y : World) => zone_order sx ax kx cx sy ay ky cy Y)
        rw [hr] at CO
        have hrn : ¬ r < 0 := by omega
        have hw2 : IntKind.i64.wrap (((j : Int) + 1) - 1) = (j : Int) := by rw [show ((j : Int) + 1) - 1 = (j : Int) by omega]; exact IntWalk.i64_in _ (by omega)
        have hwj : IntKind.i64.wrap (j : Int) = (j : Int) := IntWalk.i64_in _ (by omega)
        have hj1 : (j : Int) < (n : Int) := by omega
        have hj2 : (j : Int) + 1 < (n : Int) := by omega
        have hj3 : ((j : Int) + 1).toNat = j + 1 := by omega
        have hj4 : (0 : Int) ≤ (j : Int) + 1 := by omega
        have hj5 : (0 : Int) < (j : Int) + 1 := by omega
        clear hx hy kx0 kx1 ky0 ky1 hr hyx
        go_upto_region 4 with fail
        refine Py.wp_region_steps (by kernel_rfl) (veS [.func (.func 23) #[] #[], .slice (some ⟨b, o, none⟩) n c, .int .i64 ((j : Int) + 1), .pointer (some ⟨b, o + (j + 1) * 2, none⟩), .agg #[.string sx, .slice ax kx cx], .slice (some ⟨b, o, none⟩) n c, .int .i64 ((j : Int) + 1), .int .i64 (j : Int), .pointer (some ⟨b, o + j * 2, none⟩), .agg #[.string sy, .slice ay ky cy], .int .i64 r, .bool false] 13) (by kernel_rfl) (fun d w w' v h hB => h) ?steps ?hend
        case steps =>
          refine Py.steps_cons 13 rfl ?_ ?_
          · intro T D' w hB0 hold hdep K hK0
            have hK := Lib.hid hK0
            have h1 : T[1]?.getD undef = .func (.func 23) #[] #[] := hold 1 rfl
            clear hold hdep hK0
            go_simp
            exact hK.out _ _ (Below.refl _ _) rfl
          refine Py.steps_cons 14 rfl ?_ ?_
          · intro T D' w hB0 hold hdep K hK0
            have hK := Lib.hid hK0
            have h0 : T[0]?.getD undef = .slice (some ⟨b, o, none⟩) n c := hold 0 rfl
            clear hold hdep hK0
            go_simp
            exact hK.out _ _ (Below.refl _ _) rfl
          refine Py.steps_cons 15 rfl ?_ ?_
          · intro T D' w hB0 hold hdep K hK0
            have hK := Lib.hid hK0
            have h5 : T[5]?.getD undef = .int .i64 ((j : Int) + 1) := hold 5 rfl
            clear hold hdep hK0
            go_simp
            exact hK.out _ _ (Below.refl _ _) rfl
          refine Py.steps_cons 16 rfl ?_ ?_
          · intro T D' w hB0 hold hdep K hK0
            have hK := Lib.hid hK0
            have q14 : T[14]?.getD undef = .slice (some ⟨b, o, none⟩) n c := Py.dep hdep 1 (by kernel_rfl) rfl rfl
            have q15 : T[15]?.getD undef = .int .i64 ((j : Int) + 1) := Py.dep hdep 2 (by kernel_rfl) rfl rfl
            clear hold hdep hK0
            go_simp
            exact hK.out _ _ (Below.refl _ _) rfl
          refine Py.steps_cons 17 rfl ?_ ?_
          · intro T D' w hB0 hold hdep K hK0
            have hK := Lib.hid hK0
            have q16 : T[16]?.getD undef = .pointer (some ⟨b, o + (j + 1) * 2, none⟩) := Py.dep hdep 3 (by kernel_rfl) rfl rfl
            clear hold hdep hK0
            have c0 := KX0.out _ hB0
            have c1 := KX1.out _ hB0
            go_simp
            exact hK.out _ _ (Below.refl _ _) rfl
          refine Py.steps_cons 18 rfl ?_ ?_
          · intro T D' w hB0 hold hdep K hK0
            have hK := Lib.hid hK0
            have h0 : T[0]?.getD undef = .slice (some ⟨b, o, none⟩) n c := hold 0 rfl
            clear hold hdep hK0
            go_simp
            exact hK.out _ _ (Below.refl _ _) rfl
          refine Py.steps_cons 19 rfl ?_ ?_
          · intro T D' w hB0 hold hdep K hK0
            have hK := Lib.hid hK0
            have h5 : T[5]?.getD undef = .int .i64 ((j : Int) + 1) := hold 5 rfl
            clear hold hdep hK0
            go_simp
            exact hK.out _ _ (Below.refl _ _) rfl
          refine Py.steps_cons 20 rfl ?_ ?_
          · intro T D' w hB0 hold hdep K hK0
            have hK := Lib.hid hK0
            have q19 : T[19]?.getD undef = .int .i64 ((j : Int) + 1) := Py.dep hdep 6 (by kernel_rfl) rfl rfl
            clear hold hdep hK0
            go_simp
            exact hK.out _ _ (Below.refl _ _) rfl
          refine Py.steps_cons 21 rfl ?_ ?_
          · intro T D' w hB0 hold hdep K hK0
            have hK := Lib.hid hK0
            have q18 : T[18]?.getD undef = .slice (some ⟨b, o, none⟩) n c := Py.dep hdep 5 (by kernel_rfl) rfl rfl
            have q20 : T[20]?.getD undef = .int .i64 (j : Int) := Py.dep hdep 7 (by kernel_rfl) rfl rfl
            clear hold hdep hK0
            go_simp
            exact hK.out _ _ (Below.refl _ _) rfl
          refine Py.steps_cons 22 rfl ?_ ?_
          · intro T D' w hB0 hold hdep K hK0
            have hK := Lib.hid hK0
            have q21 : T[21]?.getD undef = .pointer (some ⟨b, o + j * 2, none⟩) := Py.dep hdep 8 (by kernel_rfl) rfl rfl
            clear hold hdep hK0
            have c0 := KY0.out _ hB0
            have c1 := KY1.out _ hB0
            go_simp
            exact hK.out _ _ (Below.refl _ _) rfl
          refine Py.steps_cons 23 rfl ?_ ?_
          · intro T D' w hB0 hold hdep K hK0
            have hK := Lib.hid hK0
            have q13 : T[13]?.getD undef = .func (.func 23) #[] #[] := Py.dep hdep 0 (by kernel_rfl) rfl rfl
            have q17 : T[17]?.getD undef = .agg #[.string sx, .slice ax kx cx] := Py.dep hdep 4 (by kernel_rfl) rfl rfl
            have q22 : T[22]?.getD undef = .agg #[.string sy, .slice ay ky cy] := Py.dep hdep 9 (by kernel_rfl) rfl rfl
            clear hold hdep hK0
            go_simp
            refine (CO.out w).mono ?_
            rintro _ V ⟨rfl, hb⟩
            exact hK.out _ _ hb rfl
          refine Py.steps_cons 24 rfl ?_ ?_
          · intro T D' w hB0 hold hdep K hK0
            have hK := Lib.hid hK0
            have q23 : T[23]?.getD undef = .int .i64 r := Py.dep hdep 10 (by kernel_rfl) rfl rfl
            clear hold hdep hK0
            go_simp
            exact hK.out _ _ (Below.refl _ _) rfl
          exact Py.steps_nil
        case hend =>
          intro T' w hsz hB0 hold hS
          have e24 : T'[24]?.getD undef = .bool false := hS 24 (by rfl)
          have HB2 := Lib.hid (HBe.out.trans (hB0.mono HBe.out.size))
          obtain ⟨G, hG⟩ : ∃ G : Nat → Value, ∀ t, T'[t]?.getD undef = G t := ⟨_, fun _ => rfl⟩
          have e' := Py.tmps_mix [13, 14, 15, 16, 17, 18, 19, 20, 21, 22, 23, 24] (by kernel_rfl) hsz hold
          simp only [List.foldl_cons, List.foldl_nil, hG, List.setIfInBounds_toArray, List.set_cons_zero, List.set_cons_succ] at e'
          rw [hG] at e24
          rw [e', e24]
          clear e' e24 hold hS hG hsz hB0
          go_wp2_with fail
          go_roundw
          case rel => exact ⟨j, by omega, by go_num, HB2.out⟩
          case measure => simp [intOf]
      · obtain rfl : i = 0 := by omega
        go_wp2_with fail
        exact bodyPost_ret (v := .bool true) (by simp [results, Tryd.results22, go_sem]) rfl ⟨rfl, HBe.out⟩
  · obtain ⟨a, c, rfl, _, _⟩ := hA.slA
    obtain ⟨n, hn⟩ : ∃ n, A.length = n := ⟨_, rfl⟩
    rw [hn] at h0 ⊢
    obtain rfl : n = 0 := by omega
    clear hA hs hn h0 hm
    go_enter Tryd.func22, Tryd.ntmps22
    go_wp2_with fail
    refine wp_loop_rounds 1 ?_
    rw [rounds_succ]
    go_wp2_with fail
    exact bodyPost_ret (v := .bool true) (by simp [results, Tryd.results22, go_sem]) rfl ⟨rfl, Below.refl _ _⟩
set_option maxHeartbeats 4000000 in
set_option maxRecDepth 100000 in
theorem link_order (tx sx : ByteArray) (ty sy : ByteArray) (W : World) :
    Calls Tryd.prog 26 #[.agg #[.string tx, .string sx], .agg #[.string ty, .string sy]] W fun e w' => e = .returned (.int .i64 (Lib.compareBytes sx.data.toList sy.data.toList)) ∧ Below W.heap.size W w' := by
  have K0 := Lib.hid (((Kp.start W).allocAt W.heap.size rfl (.cells #[.string tx, .string sx] 43)).allocAt (W.heap.size + 1) (by simp) (.cells #[.string ty, .string sy] 43))
  have CC := Lib.hid (fun (Y : World) => Tryd.strings_Compare sx sy Y)
  obtain ⟨r, hr⟩ : ∃ r, Lib.compareBytes sx.data.toList sy.data.toList = r := ⟨_, rfl⟩
  rw [hr] at CC ⊢
  obtain ⟨x0, x1⟩ := row2 (K0.out.at 1 rfl)
  obtain ⟨y0, y1⟩ := row2 (K0.out.at 0 rfl)
  clear hr
  go_enter Tryd.func26, Tryd.ntmps26
  go_wp2_with (first | (go_at_call 24; refine (CC.out _).mono ?_; rintro e X ⟨rfl, rfl⟩))
  exact bodyPost_ret (v := .int .i64 r) (by simp [results, Tryd.results26, go_sem]) rfl ⟨rfl, K0.out.below⟩
set_option maxHeartbeats 4000000 in
set_option maxRecDepth 100000 in
theorem links_ordered (A : List (List UInt8 × List UInt8)) (v : Value) (W : World) (hA : SlV W v 2 A.length (A.flatMap kcells)) (hs : ∀ (i : Nat) (x y : List UInt8 × List UInt8), A[i]? = some x → A[i + 1]? = some y → ¬ y.1 < x.1) (hm : A.length ≤ 1000) :
    Calls Tryd.prog 25 #[v, .func (.func 26) #[] #[]] W fun e w' => e = .returned (.bool true) ∧ Below W.heap.size W w' := by
  by_cases h0 : 0 < A.length
  · obtain ⟨b, o, c, rfl, hc1, hc2, hb, hcell⟩ := hA.allA h0
    obtain ⟨n, hn⟩ : ∃ n, A.length = n := ⟨_, rfl⟩
    rw [hn] at hc1 hm ⊢
    unfold maxLen at hc2
    have HN := Lib.hid hn
    have HI := Lib.hid hs
    have HC := Lib.hid hcell
    have hn0 : 0 < n := by omega
    obtain ⟨p, hp⟩ : ∃ p, n = p + 1 := ⟨n - 1, by omega⟩
    have hw1 : IntKind.i64.wrap ((n : Int) - 1) = (p : Int) := by rw [show (n : Int) - 1 = (p : Int) by omega]; exact IntWalk.i64_in _ (by omega)
    have hnI : (n : Int) - 1 = (p : Int) := by omega
    have HP := Lib.hid hp
    have mixed : Tryd.prog.follows Departure.mixedOrders = true := by kernel_rfl
    clear hA hs hcell hn h0 hp
    go_enter Tryd.func25, Tryd.ntmps25
    go_wp2_with fail
    go_loopw [5] (fun v5 wr => ∃ i : Nat, i < n ∧ v5 = .int .i64 (i : Int) ∧ Below W.heap.size W wr) (fun v5 _ => (intOf v5).toNat)
    case atStart => exact ⟨p, by have := HP.out; omega, by simp, Below.refl _ _⟩
    case round =>
      obtain ⟨i, hi, rfl, hbe⟩ := hrel
      have HBe := Lib.hid hbe
      clear hbe
      by_cases hlt : 0 < i
      · obtain ⟨j, rfl⟩ : ∃ j, i = j + 1 := ⟨i - 1, by omega⟩
        obtain ⟨x, hx⟩ : ∃ x, A[j + 1]? = some x := ⟨_, List.getElem?_eq_getElem (by rw [HN.out]; exact hi)⟩
        obtain ⟨y, hy⟩ : ∃ y, A[j]? = some y := ⟨_, List.getElem?_eq_getElem (by rw [HN.out]; omega)⟩
        have hyx := HI.out j y x hy hx
        have kx0 := HC.out _ _ (lk_at A hx).1
        have kx1 := HC.out _ _ (lk_at A hx).2
        have ky0 := HC.out _ _ (lk_at A hy).1
        have ky1 := HC.out _ _ (lk_at A hy).2
        obtain ⟨nx, dx⟩ := x
        obtain ⟨ny, dy⟩ := y
        dsimp only at kx0 kx1 ky0 ky1 hyx
        simp only [Nat.add_zero, ← Nat.add_assoc] at kx0 kx1 ky0 ky1
        obtain ⟨sx, hsx⟩ : ∃ s, bs nx = s := ⟨_, rfl⟩
        obtain ⟨sy, hsy⟩ : ∃ s, bs ny = s := ⟨_, rfl⟩
        obtain ⟨tx, htx⟩ : ∃ s, bs dx = s := ⟨_, rfl⟩
        obtain ⟨ty, hty⟩ : ∃ s, bs dy = s := ⟨_, rfl⟩
        rw [htx] at kx0
        rw [hty] at ky0
        rw [hsx] at kx1
        rw [hsy] at ky1
        have hbw : b < wr.heap.size := Nat.lt_of_lt_of_le hb HBe.out.size
        have KX0 := Lib.hid (fun (Y : World) (hB : Below wr.heap.size wr Y) => ((HBe.out.trans (hB.mono HBe.out.size)).cell (by exact hb)).trans kx0)
        have KX1 := Lib.hid (fun (Y : World) (hB : Below wr.heap.size wr Y) => ((HBe.out.trans (hB.mono HBe.out.size)).cell (by exact hb)).trans kx1)
        have KY0 := Lib.hid (fun (Y : World) (hB : Below wr.heap.size wr Y) => ((HBe.out.trans (hB.mono HBe.out.size)).cell (by exact hb)).trans ky0)
        have KY1 := Lib.hid (fun (Y : World) (hB : Below wr.heap.size wr Y) => ((HBe.out.trans (hB.mono HBe.out.size)).cell (by exact hb)).trans ky1)
        obtain ⟨r, hr⟩ : ∃ r, Lib.compareBytes sx.data.toList sy.data.toList = r := ⟨_, rfl⟩
        have hr0 : 0 ≤ r := by
          rw [← hr, ← hsx, ← hsy]
          exact compare_ge _ _ hyx
        have CO := Lib.hid (fun (Y : World) => link_order tx sx ty sy Y)
        rw [hr] at CO
        have hrn : ¬ r < 0 := by omega
        have hw2 : IntKind.i64.wrap (((j : Int) + 1) - 1) = (j : Int) := by rw [show ((j : Int) + 1) - 1 = (j : Int) by omega]; exact IntWalk.i64_in _ (by omega)
        have hwj : IntKind.i64.wrap (j : Int) = (j : Int) := IntWalk.i64_in _ (by omega)
        have hj1 : (j : Int) < (n : Int) := by omega
        have hj2 : (j : Int) + 1 < (n : Int) := by omega
        have hj3 : ((j : Int) + 1).toNat = j + 1 := by omega
        have hj4 : (0 : Int) ≤ (j : Int) + 1 := by omega
        have hj5 : (0 : Int) < (j : Int) + 1 := by omega
        clear hx hy kx0 kx1 ky0 ky1 hr hyx
        go_upto_region 4 with fail
        refine Py.wp_region_steps (by kernel_rfl) (veS [.func (.func 26) #[] #[], .slice (some ⟨b, o, none⟩) n c, .int .i64 ((j : Int) + 1), .pointer (some ⟨b, o + (j + 1) * 2, none⟩), .agg #[.string tx, .string sx], .slice (some ⟨b, o, none⟩) n c, .int .i64 ((j : Int) + 1), .int .i64 (j : Int), .pointer (some ⟨b, o + j * 2, none⟩), .agg #[.string ty, .string sy], .int .i64 r, .bool false] 13) (by kernel_rfl) (fun d w w' v h hB => h) ?steps ?hend
        case steps =>
          refine Py.steps_cons 13 rfl ?_ ?_
          · intro T D' w hB0 hold hdep K hK0
            have hK := Lib.hid hK0
            have h1 : T[1]?.getD undef = .func (.func 26) #[] #[] := hold 1 rfl
            clear hold hdep hK0
            go_simp
            exact hK.out _ _ (Below.refl _ _) rfl
          refine Py.steps_cons 14 rfl ?_ ?_
          · intro T D' w hB0 hold hdep K hK0
            have hK := Lib.hid hK0
            have h0 : T[0]?.getD undef = .slice (some ⟨b, o, none⟩) n c := hold 0 rfl
            clear hold hdep hK0
            go_simp
            exact hK.out _ _ (Below.refl _ _) rfl
          refine Py.steps_cons 15 rfl ?_ ?_
          · intro T D' w hB0 hold hdep K hK0
            have hK := Lib.hid hK0
            have h5 : T[5]?.getD undef = .int .i64 ((j : Int) + 1) := hold 5 rfl
            clear hold hdep hK0
            go_simp
            exact hK.out _ _ (Below.refl _ _) rfl
          refine Py.steps_cons 16 rfl ?_ ?_
          · intro T D' w hB0 hold hdep K hK0
            have hK := Lib.hid hK0
            have q14 : T[14]?.getD undef = .slice (some ⟨b, o, none⟩) n c := Py.dep hdep 1 (by kernel_rfl) rfl rfl
            have q15 : T[15]?.getD undef = .int .i64 ((j : Int) + 1) := Py.dep hdep 2 (by kernel_rfl) rfl rfl
            clear hold hdep hK0
            go_simp
            exact hK.out _ _ (Below.refl _ _) rfl
          refine Py.steps_cons 17 rfl ?_ ?_
          · intro T D' w hB0 hold hdep K hK0
            have hK := Lib.hid hK0
            have q16 : T[16]?.getD undef = .pointer (some ⟨b, o + (j + 1) * 2, none⟩) := Py.dep hdep 3 (by kernel_rfl) rfl rfl
            clear hold hdep hK0
            have c0 := KX0.out _ hB0
            have c1 := KX1.out _ hB0
            go_simp
            exact hK.out _ _ (Below.refl _ _) rfl
          refine Py.steps_cons 18 rfl ?_ ?_
          · intro T D' w hB0 hold hdep K hK0
            have hK := Lib.hid hK0
            have h0 : T[0]?.getD undef = .slice (some ⟨b, o, none⟩) n c := hold 0 rfl
            clear hold hdep hK0
            go_simp
            exact hK.out _ _ (Below.refl _ _) rfl
          refine Py.steps_cons 19 rfl ?_ ?_
          · intro T D' w hB0 hold hdep K hK0
            have hK := Lib.hid hK0
            have h5 : T[5]?.getD undef = .int .i64 ((j : Int) + 1) := hold 5 rfl
            clear hold hdep hK0
            go_simp
            exact hK.out _ _ (Below.refl _ _) rfl
          refine Py.steps_cons 20 rfl ?_ ?_
          · intro T D' w hB0 hold hdep K hK0
            have hK := Lib.hid hK0
            have q19 : T[19]?.getD undef = .int .i64 ((j : Int) + 1) := Py.dep hdep 6 (by kernel_rfl) rfl rfl
            clear hold hdep hK0
            go_simp
            exact hK.out _ _ (Below.refl _ _) rfl
          refine Py.steps_cons 21 rfl ?_ ?_
          · intro T D' w hB0 hold hdep K hK0
            have hK := Lib.hid hK0
            have q18 : T[18]?.getD undef = .slice (some ⟨b, o, none⟩) n c := Py.dep hdep 5 (by kernel_rfl) rfl rfl
            have q20 : T[20]?.getD undef = .int .i64 (j : Int) := Py.dep hdep 7 (by kernel_rfl) rfl rfl
            clear hold hdep hK0
            go_simp
            exact hK.out _ _ (Below.refl _ _) rfl
          refine Py.steps_cons 22 rfl ?_ ?_
          · intro T D' w hB0 hold hdep K hK0
            have hK := Lib.hid hK0
            have q21 : T[21]?.getD undef = .pointer (some ⟨b, o + j * 2, none⟩) := Py.dep hdep 8 (by kernel_rfl) rfl rfl
            clear hold hdep hK0
            have c0 := KY0.out _ hB0
            have c1 := KY1.out _ hB0
            go_simp
            exact hK.out _ _ (Below.refl _ _) rfl
          refine Py.steps_cons 23 rfl ?_ ?_
          · intro T D' w hB0 hold hdep K hK0
            have hK := Lib.hid hK0
            have q13 : T[13]?.getD undef = .func (.func 26) #[] #[] := Py.dep hdep 0 (by kernel_rfl) rfl rfl
            have q17 : T[17]?.getD undef = .agg #[.string tx, .string sx] := Py.dep hdep 4 (by kernel_rfl) rfl rfl
            have q22 : T[22]?.getD undef = .agg #[.string ty, .string sy] := Py.dep hdep 9 (by kernel_rfl) rfl rfl
            clear hold hdep hK0
            go_simp
            refine (CO.out w).mono ?_
            rintro _ V ⟨rfl, hb⟩
            exact hK.out _ _ hb rfl
          refine Py.steps_cons 24 rfl ?_ ?_
          · intro T D' w hB0 hold hdep K hK0
            have hK := Lib.hid hK0
            have q23 : T[23]?.getD undef = .int .i64 r := Py.dep hdep 10 (by kernel_rfl) rfl rfl
            clear hold hdep hK0
            go_simp
            exact hK.out _ _ (Below.refl _ _) rfl
          exact Py.steps_nil
        case hend =>
          intro T' w hsz hB0 hold hS
          have e24 : T'[24]?.getD undef = .bool false := hS 24 (by rfl)
          have HB2 := Lib.hid (HBe.out.trans (hB0.mono HBe.out.size))
          obtain ⟨G, hG⟩ : ∃ G : Nat → Value, ∀ t, T'[t]?.getD undef = G t := ⟨_, fun _ => rfl⟩
          have e' := Py.tmps_mix [13, 14, 15, 16, 17, 18, 19, 20, 21, 22, 23, 24] (by kernel_rfl) hsz hold
          simp only [List.foldl_cons, List.foldl_nil, hG, List.setIfInBounds_toArray, List.set_cons_zero, List.set_cons_succ] at e'
          rw [hG] at e24
          rw [e', e24]
          clear e' e24 hold hS hG hsz hB0
          go_wp2_with fail
          go_roundw
          case rel => exact ⟨j, by omega, by go_num, HB2.out⟩
          case measure => simp [intOf]
      · obtain rfl : i = 0 := by omega
        go_wp2_with fail
        exact bodyPost_ret (v := .bool true) (by simp [results, Tryd.results25, go_sem]) rfl ⟨rfl, HBe.out⟩
  · obtain ⟨a, c, rfl, _, _⟩ := hA.slA
    obtain ⟨n, hn⟩ : ∃ n, A.length = n := ⟨_, rfl⟩
    rw [hn] at h0 ⊢
    obtain rfl : n = 0 := by omega
    clear hA hs hn h0 hm
    go_enter Tryd.func25, Tryd.ntmps25
    go_wp2_with fail
    refine wp_loop_rounds 1 ?_
    rw [rounds_succ]
    go_wp2_with fail
    exact bodyPost_ret (v := .bool true) (by simp [results, Tryd.results25, go_sem]) rfl ⟨rfl, Below.refl _ _⟩
end Go.Proofs.YtnffecoohkanhaaDoor.Px
