/- The reference's Check (chapter 15). -/
import Derived.Test.YtnffecoohkanhaaDoorYLnR
import Derived.Test.YtnffecoohkanhaaDoorYNzG
import Derived.Shelf.SlSortCmp.QuietGrown
namespace Go.Proofs.YtnffecoohkanhaaDoor.Px
open Go.RowKit
open Go.Maps (Keyed)
open Lk

theorem posA_le {α : Type} [DecidableEq α] : ∀ (l : List α) (i : Nat) (x : α), l[i]? = some x → posA l x ≤ i
  | [], _, _, h => by simp at h
  | y :: r, 0, x, h => by
    have : y = x := by simpa using h
    rw [posA_cons, if_pos this]
    exact Nat.le_refl _
  | y :: r, i + 1, x, h => by
    rw [List.getElem?_cons_succ] at h
    rw [posA_cons]
    have := posA_le r i x h
    split <;> omega
theorem below_grows (w : World) (n : Nat) (os : Array Obj) : Below w.heap.size w (Go.Sort.grow (w.drewN n) os) := ⟨rfl, rfl, rfl, by rw [Go.Sort.size_grow]; exact Nat.le_add_right _ _, fun k hk => Go.Sort.heap_grow_old (w.drewN n) os hk⟩
theorem grows_of {f : FuncId} {args : Array Value} {w : World} {v : Value} {o : Obj} (h : Calls Tryd.prog f args w fun e w' => e = .returned v ∧ w' = w.alloc o) : Calls Tryd.prog f args w fun e w' => e = .returned v ∧ ∃ q os', w' = Go.Sort.grow (w.drewN q) os' :=
  h.mono fun e w' ⟨he, hw⟩ => ⟨he, 0, #[o], by rw [hw]; exact Go.Sort.alloc_eq_grow w o⟩
set_option maxHeartbeats 8000000 in
set_option maxRecDepth 100000 in
theorem check_ref (rv zv lv sv : Value) (Z : List Zo) (L : List (List UInt8 × List UInt8)) (W : World) (h : SrcV W zv lv Z L) (hz : Z.length ≤ 1000000) (hmax : L.length ≤ 1000000) :
    Calls Tryd.prog 31 #[.agg #[rv, zv, lv, sv]] W fun e w' => e = .returned (.tuple #[.agg #[.int .i64 (checkL (znames Z) L zoneOk).1.1, .int .i64 (checkL (znames Z) L zoneOk).1.2, .int .i64 0], .int .i64 (checkL (znames Z) L zoneOk).2]) ∧ Below W.heap.size W w' := by
  obtain ⟨az, cz, rfl, hzc1, hzc2⟩ := h.zo.slA
  have hallz := fun h0 => h.zo.allA h0
  obtain ⟨al, cl, rfl, hlc1, hlc2⟩ := h.lk.slA
  have halll := fun h0 => h.lk.allA h0
  have CZ := Lib.hid (fun (Y : World) (hB : Below W.heap.size W Y) (q : List UInt8) => zone_ref rv (.slice az Z.length cz) (.slice al L.length cl) sv Z q Y (h.zo.keep hB) hz)
  have CX := Lib.hid (fun (Y : World) (hB : Below W.heap.size W Y) (q : List UInt8) => zone_exact rv (.slice az Z.length cz) (.slice al L.length cl) sv Z q Y (h.zo.keep hB) hz)
  have CL := Lib.hid (fun (Y : World) (hB : Below W.heap.size W Y) (q : List UInt8) => link_ref rv (.slice az Z.length cz) (.slice al L.length cl) sv L q Y (h.lk.keep hB) hmax)
  have CK := Lib.hid (fun (Y : World) (hB : Below W.heap.size W Y) (q : List UInt8) => known_ref rv (.slice az Z.length cz) (.slice al L.length cl) sv Z L q Y (h.keep hB) hz hmax)
  have CF := Lib.hid (fun (Y : World) (hB : Below W.heap.size W Y) (q : List UInt8) => find_ref rv (.slice az Z.length cz) (.slice al L.length cl) sv Z L q Y (h.keep hB) hz hmax)
  have HZn := Lib.hid h.zn
  have HLn := Lib.hid h.ln
  obtain ⟨nz, hnz⟩ : ∃ n, Z.length = n := ⟨_, rfl⟩
  obtain ⟨nl, hnl⟩ : ∃ n, L.length = n := ⟨_, rfl⟩
  rw [hnz] at hallz hz hzc1 CZ CX CL CK CF ⊢
  rw [hnl] at halll hmax hlc1 CZ CX CL CK CF ⊢
  unfold maxLen at hzc2 hlc2
  have HAz := Lib.hid hallz
  have HAl := Lib.hid halll
  have HNz := Lib.hid hnz
  have HNl := Lib.hid hnl
  obtain ⟨R, hR⟩ : ∃ R, checkL (znames Z) L zoneOk = R := ⟨_, rfl⟩
  rw [hR]
  have HR := Lib.hid hR
  obtain ⟨R1, R2⟩ := R
  obtain ⟨Ra, Rb⟩ := R1
  have K0 := Lib.hid (((Kp.start W).allocAt W.heap.size rfl (.cells #[rv, .slice az nz cz, .slice al nl cl, sv] 27)).allocAt (W.heap.size + 1) (by simp) (.cells #[.int .i64 0, .int .i64 0, .int .i64 0] 71))
  obtain ⟨W1, hW1⟩ : ∃ X, (W.alloc (.cells #[rv, .slice az nz cz, .slice al nl cl, sv] 27)).alloc (.cells #[.int .i64 0, .int .i64 0, .int .i64 0] 71) = X := ⟨_, rfl⟩
  rw [hW1] at K0
  clear h hallz halll hnz hnl hR
  go_enter Tryd.func31, Tryd.ntmps31
  go_wp2_with fail
  go_loopw [4, 5] (fun i4 _ wr => ∃ i : Nat, i ≤ nz ∧ i4 = .int .i64 (i : Int) ∧ (∀ j, j < i → zoneE (znames Z) zoneOk j = 0) ∧ Below W1.heap.size W1 wr) (fun i4 _ _ => nz - (intOf i4).toNat)
  case atStart => exact ⟨0, by omega, rfl, fun j hj => by omega, by first | exact Below.refl _ _ | (rw [hW1]; exact Below.refl _ _)⟩
  case round =>
    try clear hW1
    obtain ⟨i, hi', rfl, hzz, hB⟩ := hrel
    have HB := Lib.hid hB
    have HZ := Lib.hid hzz
    have HK := Lib.hid (K0.out.keep HB.out)
    obtain ⟨u0, u1, u2, u3⟩ := row4 (HK.out.at 1 rfl)
    clear hB hzz
    by_cases hlt : i < nz
    · obtain ⟨b, o, c', e1, _, _, hb, hcell⟩ := HAz.out (by omega)
      simp only [Value.slice.injEq] at e1
      obtain ⟨rfl, _, rfl⟩ := e1
      obtain ⟨x, hx⟩ : ∃ x, Z[i]? = some x := ⟨_, List.getElem?_eq_getElem (by rw [HNz.out]; exact hlt)⟩
      obtain ⟨q0, q1⟩ := zo_at Z hx
      have hc0 := Lib.hid (show W.cell? ⟨b, o + i * 2, none⟩ = some (.string (bs x.1)) from hcell _ _ q0)
      have hc1' := Lib.hid (show W.cell? ⟨b, o + i * 2 + 1, none⟩ = some (.slice x.2.1 x.2.2.1 x.2.2.2) from hcell _ _ q1)
      have hxl := HZn.out x (List.mem_of_getElem? hx)
      have hzx := znames_at hx
      have hin : x.1 ∈ znames Z := List.mem_of_getElem? hzx
      have HIl := Lib.hid (show i < (znames Z).length by rw [znames_len, HNz.out]; exact hlt)
      have hE : zoneE (znames Z) zoneOk i = if zoneOk x.1 = false then 9 else if posA (znames Z) x.1 ≠ i then 10 else 0 := by
        unfold zoneE
        rw [getD_of hzx, posA_idx]
      have hple := posA_le _ _ _ hzx
      have CZx := Lib.hid (fun (Y : World) (hB : Below W.heap.size W Y) => CZ.out Y hB x.1)
      rw [show idx1 (znames Z) x.1 = (posA (znames Z) x.1 : Int) by unfold idx1; rw [if_pos hin]] at CZx
      obtain ⟨p, hp⟩ : ∃ p, posA (znames Z) x.1 = p := ⟨_, rfl⟩
      rw [hp] at hE hple CZx
      have hzone := Lib.hid (fun (Y : World) => ref_zone (bs x.1) hxl Y)
      obtain ⟨g, hg⟩ : ∃ g, zoneOk x.1 = g := ⟨_, rfl⟩
      rw [show (bs x.1).data.toList = x.1 from rfl, hg] at hzone
      rw [hg] at hE
      obtain ⟨v0, hv0⟩ : ∃ v, bs x.1 = v := ⟨_, rfl⟩
      rw [hv0] at hc0 hzone CZx
      obtain ⟨v1, hv1⟩ : ∃ v, Value.slice x.2.1 x.2.2.1 x.2.2.2 = v := ⟨_, rfl⟩
      rw [hv1] at hc1'
      have KA := Lib.hid (HK.out.allocAt wr.heap.size rfl (.cells #[.int .i64 2, .int .i64 (i : Int), .int .i64 0] 71))
      have HBA := Lib.hid (HB.out.alloc HB.out.size (.cells #[.int .i64 2, .int .i64 (i : Int), .int .i64 0] 71))
      have hbw := Nat.lt_of_lt_of_le hb HK.out.below.size
      have hw0 := HK.out.lt 1 rfl
      have k0 := (HK.out.below.cell (p := ⟨b, o + i * 2, none⟩) hb).trans hc0.out
      clear hx hcell q0 q1 hzx hin hxl hg hp hv0 hv1
      cases g with
      | false =>
        rw [if_pos rfl] at hE
        have e0 := check_zone (znames Z) L zoneOk HIl.out (by rw [hE]; decide) HZ.out
        rw [HR.out, hE] at e0
        simp only [Prod.mk.injEq] at e0
        obtain ⟨⟨rfl, rfl⟩, rfl⟩ := e0
        go_wp2_with (first | ((go_at_call 53; refine (hzone.out _).mono ?_; rintro e w' ⟨rfl, rfl⟩; obtain ⟨Wp, hWp⟩ : ∃ X, wr.alloc (.cells #[.int .i64 2, .int .i64 (i : Int), .int .i64 0] 71) = X := ⟨_, rfl⟩; rw [hWp] at KA HBA ⊢; clear hWp; obtain ⟨⟨d0, d1, d2⟩, _⟩ := row3 (KA.out.at 0 rfl); obtain ⟨⟨f0, f1, f2⟩, f3, f4, f5⟩ := row3 (KA.out.at 1 rfl)); have K2 := Lib.hid KA.out) | go_in)
        have KF := Lib.hid (((K2.out.set 1 rfl 0 (.int .i64 2) rfl).set 1 rfl 1 (.int .i64 (i : Int)) rfl).set 1 rfl 2 (.int .i64 0) rfl)
        obtain ⟨⟨r0, r1, r2⟩, _⟩ := row3 (KF.out.at 1 rfl)
        refine bodyPost_ret (v := .tuple #[.agg #[.int .i64 2, .int .i64 (i : Int), .int .i64 0], .int .i64 9]) (by simp [results, Tryd.results31, go_sem, r0, r1, r2]) rfl ⟨rfl, KF.out.below⟩
      | true =>
        rw [if_neg (by decide)] at hE
        by_cases hpi : p = i
        · rw [if_neg (fun q => q hpi)] at hE
          have HE := Lib.hid hE
          have hpi2 : ¬ (p : Int) < (i : Int) := by omega
          clear hE hple hpi
          go_upto_region 7 with (first | (go_at_call 53; refine (hzone.out _).mono ?_; rintro e w' ⟨rfl, rfl⟩; obtain ⟨Wp, hWp⟩ : ∃ X, wr.alloc (.cells #[.int .i64 2, .int .i64 (i : Int), .int .i64 0] 71) = X := ⟨_, rfl⟩; rw [hWp] at KA HBA ⊢; clear hWp; obtain ⟨⟨d0, d1, d2⟩, _⟩ := row3 (KA.out.at 0 rfl); obtain ⟨⟨f0, f1, f2⟩, f3, f4, f5⟩ := row3 (KA.out.at 1 rfl)))
          clear d0 d1 d2 f0 f1 f2 f3 f4 f5
          have HS := Lib.hid (fun (Y : World) (hB : Below Wp.heap.size Wp Y) => (show Y.cell? ⟨W.heap.size, 0, none⟩ = some rv ∧ Y.cell? ⟨W.heap.size, 1, none⟩ = some (.slice (some ⟨b, o, none⟩) nz cz) ∧ Y.cell? ⟨W.heap.size, 2, none⟩ = some (.slice al nl cl) ∧ Y.cell? ⟨W.heap.size, 3, none⟩ = some sv ∧ Y.cell? ⟨b, o + i * 2, none⟩ = some (.string v0) ∧ Y.cell? ⟨b, o + i * 2 + 1, none⟩ = some v1 ∧ b < Y.heap.size ∧ Below Wp.heap.size Wp Y from
            ⟨cells_at ((KA.out.keep hB).at 2 rfl) 0, cells_at ((KA.out.keep hB).at 2 rfl) 1, cells_at ((KA.out.keep hB).at 2 rfl) 2, cells_at ((KA.out.keep hB).at 2 rfl) 3, ((KA.out.keep hB).below.cell (p := ⟨b, o + i * 2, none⟩) hb).trans hc0.out, ((KA.out.keep hB).below.cell (p := ⟨b, o + i * 2 + 1, none⟩) hb).trans hc1'.out, Nat.lt_of_lt_of_le hb (KA.out.keep hB).below.size, hB⟩))
          have HWp := Lib.hid (fun (Y : World) (hB : Below Wp.heap.size Wp Y) => (show Below W.heap.size W Y from (KA.out.keep hB).below))
          have HX0 : Hid (Below Wp.heap.size Wp Wp.drew) := Lib.hid (bdrew Wp)
          obtain ⟨t0, t1, t2, t3, t4, t5, t6, _⟩ := HS.out Wp (Below.refl _ _)
          go_region_held3 (fun w' => w'.cell? ⟨W.heap.size, 0, none⟩ = some rv ∧ w'.cell? ⟨W.heap.size, 1, none⟩ = some (.slice (some ⟨b, o, none⟩) nz cz) ∧ w'.cell? ⟨W.heap.size, 2, none⟩ = some (.slice al nl cl) ∧ w'.cell? ⟨W.heap.size, 3, none⟩ = some sv ∧ w'.cell? ⟨b, o + i * 2, none⟩ = some (.string v0) ∧ w'.cell? ⟨b, o + i * 2 + 1, none⟩ = some v1 ∧ b < w'.heap.size ∧ Below Wp.heap.size Wp w')
            (first | with_reducible exact HS.out _ HX1.out | with_reducible exact HS.out _ HX0.out)
            (first | (go_at_call 54; refine (CZx.out _ (HWp.out _ HX0.out)).mono ?_; rintro e X ⟨rfl, hb2⟩; have HX1 : Hid (Below Wp.heap.size Wp X) := Lib.hid (HX0.out.trans (hb2.mono HX0.out.size)); clear hb2))
          all_goals
            go_wp2_with fail
            go_roundw
            case rel =>
              refine ⟨i + 1, by omega, by go_num, fun j hj => ?_, HBA.out.trans (HX1.out.mono HBA.out.size)⟩
              by_cases hj2 : j < i
              · exact HZ.out j hj2
              · obtain rfl : j = i := by omega
                exact HE.out
            case measure => simp [intOf]; omega
        · rw [if_pos hpi] at hE
          have e0 := check_zone (znames Z) L zoneOk HIl.out (by rw [hE]; decide) HZ.out
          rw [HR.out, hE] at e0
          simp only [Prod.mk.injEq] at e0
          obtain ⟨⟨rfl, rfl⟩, rfl⟩ := e0
          have hpi2 : (p : Int) < (i : Int) := by omega
          clear hE hple hpi
          go_upto_region 7 with (first | (go_at_call 53; refine (hzone.out _).mono ?_; rintro e w' ⟨rfl, rfl⟩; obtain ⟨Wp, hWp⟩ : ∃ X, wr.alloc (.cells #[.int .i64 2, .int .i64 (i : Int), .int .i64 0] 71) = X := ⟨_, rfl⟩; rw [hWp] at KA HBA ⊢; clear hWp; obtain ⟨⟨d0, d1, d2⟩, _⟩ := row3 (KA.out.at 0 rfl); obtain ⟨⟨f0, f1, f2⟩, f3, f4, f5⟩ := row3 (KA.out.at 1 rfl)))
          clear d0 d1 d2 f0 f1 f2 f3 f4 f5
          have HS := Lib.hid (fun (Y : World) (hB : Below Wp.heap.size Wp Y) => (show Y.cell? ⟨W.heap.size, 0, none⟩ = some rv ∧ Y.cell? ⟨W.heap.size, 1, none⟩ = some (.slice (some ⟨b, o, none⟩) nz cz) ∧ Y.cell? ⟨W.heap.size, 2, none⟩ = some (.slice al nl cl) ∧ Y.cell? ⟨W.heap.size, 3, none⟩ = some sv ∧ Y.cell? ⟨b, o + i * 2, none⟩ = some (.string v0) ∧ Y.cell? ⟨b, o + i * 2 + 1, none⟩ = some v1 ∧ b < Y.heap.size ∧ Below Wp.heap.size Wp Y from
            ⟨cells_at ((KA.out.keep hB).at 2 rfl) 0, cells_at ((KA.out.keep hB).at 2 rfl) 1, cells_at ((KA.out.keep hB).at 2 rfl) 2, cells_at ((KA.out.keep hB).at 2 rfl) 3, ((KA.out.keep hB).below.cell (p := ⟨b, o + i * 2, none⟩) hb).trans hc0.out, ((KA.out.keep hB).below.cell (p := ⟨b, o + i * 2 + 1, none⟩) hb).trans hc1'.out, Nat.lt_of_lt_of_le hb (KA.out.keep hB).below.size, hB⟩))
          have HWp := Lib.hid (fun (Y : World) (hB : Below Wp.heap.size Wp Y) => (show Below W.heap.size W Y from (KA.out.keep hB).below))
          have HX0 : Hid (Below Wp.heap.size Wp Wp.drew) := Lib.hid (bdrew Wp)
          obtain ⟨t0, t1, t2, t3, t4, t5, t6, _⟩ := HS.out Wp (Below.refl _ _)
          go_region_held3 (fun w' => w'.cell? ⟨W.heap.size, 0, none⟩ = some rv ∧ w'.cell? ⟨W.heap.size, 1, none⟩ = some (.slice (some ⟨b, o, none⟩) nz cz) ∧ w'.cell? ⟨W.heap.size, 2, none⟩ = some (.slice al nl cl) ∧ w'.cell? ⟨W.heap.size, 3, none⟩ = some sv ∧ w'.cell? ⟨b, o + i * 2, none⟩ = some (.string v0) ∧ w'.cell? ⟨b, o + i * 2 + 1, none⟩ = some v1 ∧ b < w'.heap.size ∧ Below Wp.heap.size Wp w')
            (first | with_reducible exact HS.out _ HX1.out | with_reducible exact HS.out _ HX0.out)
            (first | (go_at_call 54; refine (CZx.out _ (HWp.out _ HX0.out)).mono ?_; rintro e X ⟨rfl, hb2⟩; have HX1 : Hid (Below Wp.heap.size Wp X) := Lib.hid (HX0.out.trans (hb2.mono HX0.out.size)); clear hb2))
          all_goals
            have K2 := Lib.hid (KA.out.keep HX1.out)
            obtain ⟨⟨d0, d1, d2⟩, _⟩ := row3 (K2.out.at 0 rfl)
            obtain ⟨⟨f0, f1, f2⟩, f3, f4, f5⟩ := row3 (K2.out.at 1 rfl)
            go_wp2_with fail
            have KF := Lib.hid (((K2.out.set 1 rfl 0 (.int .i64 2) rfl).set 1 rfl 1 (.int .i64 (i : Int)) rfl).set 1 rfl 2 (.int .i64 0) rfl)
            obtain ⟨⟨r0, r1, r2⟩, _⟩ := row3 (KF.out.at 1 rfl)
            refine bodyPost_ret (v := .tuple #[.agg #[.int .i64 2, .int .i64 (i : Int), .int .i64 0], .int .i64 10]) (by simp [results, Tryd.results31, go_sem, r0, r1, r2]) rfl ⟨rfl, KF.out.below⟩
    · obtain rfl : nz = i := by omega
      go_wp2_with fail
      clear u0 u1 u2 u3 HK
      have HZ' := Lib.hid (fun j (hj : j < (znames Z).length) => HZ.out j (by rw [znames_len, HNz.out] at hj; exact hj))
      clear HZ
      go_loopw [6, 7] (fun i6 _ wr => ∃ i : Nat, i ≤ nl ∧ i6 = .int .i64 (i : Int) ∧ (∀ j, j < i → linkE (znames Z) L zoneOk j = 0) ∧ Below W1.heap.size W1 wr) (fun i6 _ _ => nl - (intOf i6).toNat)
      case atStart => exact ⟨0, by omega, rfl, fun j hj => by omega, HB.out⟩
      case round =>
        clear HB
        obtain ⟨k, hk', rfl, hzz, hB⟩ := hrel
        have HB := Lib.hid hB
        have HL := Lib.hid hzz
        have HK := Lib.hid (K0.out.keep HB.out)
        obtain ⟨u0, u1, u2, u3⟩ := row4 (HK.out.at 1 rfl)
        clear hB hzz
        have hw0 := HK.out.lt 1 rfl
        by_cases hlt : k < nl
        · obtain ⟨b, o, c', e1, _, _, hb, hcell⟩ := HAl.out (by omega)
          simp only [Value.slice.injEq] at e1
          obtain ⟨rfl, _, rfl⟩ := e1
          obtain ⟨i, rfl⟩ : ∃ i, i = k := ⟨k, rfl⟩
          obtain ⟨x, hx⟩ : ∃ x, L[i]? = some x := ⟨_, List.getElem?_eq_getElem (by rw [HNl.out]; exact hlt)⟩
          obtain ⟨q0, q1⟩ := lk_at L hx
          have hc0 := Lib.hid (show W.cell? ⟨b, o + i * 2, none⟩ = some (.string (bs x.2)) from hcell _ _ q0)
          have hc1' := Lib.hid (show W.cell? ⟨b, o + i * 2 + 1, none⟩ = some (.string (bs x.1)) from hcell _ _ q1)
          have hxl := HLn.out x (List.mem_of_getElem? hx)
          have hzx := nm_at hx
          have hin : x.1 ∈ nm L := List.mem_of_getElem? hzx
          have HIl := Lib.hid (show i < L.length by rw [HNl.out]; exact hlt)
          have hE : linkE (znames Z) L zoneOk i = if zoneOk x.1 = false then 9 else if x.1 ∈ znames Z ∨ posA (nm L) x.1 ≠ i then 10 else if x.2 ∉ znames Z ∧ x.2 ∉ nm L then 9 else 0 := by
            unfold linkE
            rw [getD_of hzx, getD_of hx, posA_idx]
          have hple := posA_le _ _ _ hzx
          have CZx := Lib.hid (fun (Y : World) (hB : Below W.heap.size W Y) => CZ.out Y hB x.1)
          have CLx := Lib.hid (fun (Y : World) (hB : Below W.heap.size W Y) => CL.out Y hB x.1)
          have CE := Lib.hid (fun (Y : World) (hB : Below W.heap.size W Y) => CX.out Y hB x.1)
          have CKx := Lib.hid (fun (Y : World) (hB : Below W.heap.size W Y) => CK.out Y hB x.2)
          rw [show idx1 (nm L) x.1 = (posA (nm L) x.1 : Int) by unfold idx1; rw [if_pos hin]] at CLx
          obtain ⟨p, hp⟩ : ∃ p, posA (nm L) x.1 = p := ⟨_, rfl⟩
          rw [hp] at hE hple CLx
          have hzone := Lib.hid (fun (Y : World) => ref_zone (bs x.1) hxl.1 Y)
          obtain ⟨g, hg⟩ : ∃ g, zoneOk x.1 = g := ⟨_, rfl⟩
          rw [show (bs x.1).data.toList = x.1 from rfl, hg] at hzone
          rw [hg] at hE
          obtain ⟨v0, hv0⟩ : ∃ v, bs x.2 = v := ⟨_, rfl⟩
          rw [hv0] at hc0 CKx
          obtain ⟨v1, hv1⟩ : ∃ v, bs x.1 = v := ⟨_, rfl⟩
          rw [hv1] at hc1' hzone CZx CLx CE
          have KA := Lib.hid (HK.out.allocAt wr.heap.size rfl (.cells #[.int .i64 3, .int .i64 (i : Int), .int .i64 0] 71))
          have HBA := Lib.hid (HB.out.alloc HB.out.size (.cells #[.int .i64 3, .int .i64 (i : Int), .int .i64 0] 71))
          have hbw := Nat.lt_of_lt_of_le hb HK.out.below.size
          have k1 := (HK.out.below.cell (p := ⟨b, o + i * 2 + 1, none⟩) hb).trans hc1'.out
          have Fin := Lib.hid (show ∀ (E : Int), linkE (znames Z) L zoneOk i = E → E ≠ 0 → Ra = 3 ∧ Rb = (i : Int) ∧ R2 = E by
            intro E hEe h0
            have := check_link (znames Z) L zoneOk HZ'.out HIl.out (by rw [hEe]; exact h0) HL.out
            rw [HR.out, hEe] at this
            simp only [Prod.mk.injEq] at this
            exact ⟨this.1.1, this.1.2, this.2⟩)
          clear hx hcell q0 q1 hzx hin hxl hg hp hv0 hv1
          cases g with
          | false =>
            rw [if_pos rfl] at hE
            obtain ⟨rfl, rfl, rfl⟩ := Fin.out 9 hE (by decide)
            go_wp2_with (first | ((go_at_call 53; refine (hzone.out _).mono ?_; rintro e w' ⟨rfl, rfl⟩; obtain ⟨Wp, hWp⟩ : ∃ X, wr.alloc (.cells #[.int .i64 3, .int .i64 (i : Int), .int .i64 0] 71) = X := ⟨_, rfl⟩; rw [hWp] at KA HBA ⊢; clear hWp; obtain ⟨⟨d0, d1, d2⟩, _⟩ := row3 (KA.out.at 0 rfl); obtain ⟨⟨f0, f1, f2⟩, f3, f4, f5⟩ := row3 (KA.out.at 1 rfl)); have K2 := Lib.hid KA.out) | go_in)
            have KF := Lib.hid (((K2.out.set 1 rfl 0 (.int .i64 3) rfl).set 1 rfl 1 (.int .i64 (i : Int)) rfl).set 1 rfl 2 (.int .i64 0) rfl)
            obtain ⟨⟨r0, r1, r2⟩, _⟩ := row3 (KF.out.at 1 rfl)
            refine bodyPost_ret (v := .tuple #[.agg #[.int .i64 3, .int .i64 (i : Int), .int .i64 0], .int .i64 9]) (by simp [results, Tryd.results31, go_sem, r0, r1, r2]) rfl ⟨rfl, KF.out.below⟩
          | true =>
            rw [if_neg (by decide)] at hE
            by_cases hg1 : x.1 ∈ znames Z
            · rw [if_pos (.inl hg1)] at hE
              obtain ⟨rfl, rfl, rfl⟩ := Fin.out 10 hE (by decide)
              rw [show idx1 (znames Z) x.1 = (posA (znames Z) x.1 : Int) by unfold idx1; rw [if_pos hg1]] at CE
              obtain ⟨p2, hc1⟩ : ∃ c, posA (znames Z) x.1 = c := ⟨_, rfl⟩
              rw [hc1] at CE
              clear hc1 hE hple CZx CLx CKx
              go_upto_region 15 with (first | (go_at_call 53; refine (hzone.out _).mono ?_; rintro e w' ⟨rfl, rfl⟩; obtain ⟨Wp, hWp⟩ : ∃ X, wr.alloc (.cells #[.int .i64 3, .int .i64 (i : Int), .int .i64 0] 71) = X := ⟨_, rfl⟩; rw [hWp] at KA HBA ⊢; clear hWp; obtain ⟨⟨d0, d1, d2⟩, _⟩ := row3 (KA.out.at 0 rfl); obtain ⟨⟨f0, f1, f2⟩, f3, f4, f5⟩ := row3 (KA.out.at 1 rfl)))
              clear d0 d1 d2 f0 f1 f2 f3 f4 f5
              have hgr := Lib.hid (fun (n : Nat) (os : Array Obj) => below_grows Wp n os)
              have CG := Lib.hid (fun (n : Nat) (os : Array Obj) => grows_of (CE.out (Go.Sort.grow (Wp.drewN n) os) ((KA.out.keep (hgr.out n os)).below)))
              have a0 := Go.cell_grown (KA.out.lt 2 rfl) (cells_at (KA.out.at 2 rfl) 0)
              have a1 := Go.cell_grown (KA.out.lt 2 rfl) (cells_at (KA.out.at 2 rfl) 1)
              have a2 := Go.cell_grown (KA.out.lt 2 rfl) (cells_at (KA.out.at 2 rfl) 2)
              have a3 := Go.cell_grown (KA.out.lt 2 rfl) (cells_at (KA.out.at 2 rfl) 3)
              have hbW := Nat.lt_of_lt_of_le hb KA.out.below.size
              have a4 := Go.cell_grown (a := ⟨b, o + i * 2 + 1, none⟩) hbW ((KA.out.below.cell (p := ⟨b, o + i * 2 + 1, none⟩) hb).trans hc1'.out)
              have mixed : Tryd.prog.follows .mixedOrders = true := by kernel_rfl
              have hp0 : (0 : Int) ≤ (p2 : Int) := Int.natCast_nonneg _
              refine Go.wp_region_quiet_grown mixed (by kernel_rfl) ?_
              repeat (go_big_quiet_step (first | (go_at_call 54; exact Go.Calls.grown_of (CG.out _ _))))
              refine wpQuiet_nil ?_
              intro _ hw'
              obtain ⟨⟨nq, osq⟩, hw''⟩ := hw'
              subst hw''
              have HX1 := Lib.hid (hgr.out nq osq)
              all_goals
                have K2 := Lib.hid (KA.out.keep HX1.out)
                obtain ⟨⟨d0, d1, d2⟩, _⟩ := row3 (K2.out.at 0 rfl)
                obtain ⟨⟨f0, f1, f2⟩, f3, f4, f5⟩ := row3 (K2.out.at 1 rfl)
                go_wp2_with fail
                have KF := Lib.hid (((K2.out.set 1 rfl 0 (.int .i64 3) rfl).set 1 rfl 1 (.int .i64 (i : Int)) rfl).set 1 rfl 2 (.int .i64 0) rfl)
                obtain ⟨⟨r0, r1, r2⟩, _⟩ := row3 (KF.out.at 1 rfl)
                refine bodyPost_ret (v := .tuple #[.agg #[.int .i64 3, .int .i64 (i : Int), .int .i64 0], .int .i64 10]) (by simp [results, Tryd.results31, go_sem, r0, r1, r2]) rfl ⟨rfl, KF.out.below⟩
            · rw [idx1_out hg1] at CZx
              by_cases hpi : p = i
              · rw [if_neg (by rintro (q | q); exact hg1 q; exact q hpi)] at hE
                have hpi2 : ¬ (p : Int) < (i : Int) := by omega
                obtain ⟨r, hr⟩ : ∃ r, decide (x.2 ∈ znames Z ∨ x.2 ∈ nm L) = r := ⟨_, rfl⟩
                rw [hr] at CKx
                have hE2 : linkE (znames Z) L zoneOk i = if r = true then 0 else 9 := by
                  rw [hE, ← hr]
                  by_cases q : x.2 ∈ znames Z ∨ x.2 ∈ nm L
                  · rw [decide_eq_true q, if_neg (fun q2 : ¬ x.2 ∈ znames Z ∧ ¬ x.2 ∈ nm L => q.elim q2.1 q2.2)]; rfl
                  · rw [decide_eq_false q, if_pos (show ¬ x.2 ∈ znames Z ∧ ¬ x.2 ∈ nm L from ⟨fun q2 => q (.inl q2), fun q2 => q (.inr q2)⟩)]; rfl
                have HE := Lib.hid hE2
                clear hE hE2 hr hg1 hple hpi
                go_upto_region 15 with (first | (go_at_call 53; refine (hzone.out _).mono ?_; rintro e w' ⟨rfl, rfl⟩; obtain ⟨Wp, hWp⟩ : ∃ X, wr.alloc (.cells #[.int .i64 3, .int .i64 (i : Int), .int .i64 0] 71) = X := ⟨_, rfl⟩; rw [hWp] at KA HBA ⊢; clear hWp; obtain ⟨⟨d0, d1, d2⟩, _⟩ := row3 (KA.out.at 0 rfl); obtain ⟨⟨f0, f1, f2⟩, f3, f4, f5⟩ := row3 (KA.out.at 1 rfl)))
                clear d0 d1 d2 f0 f1 f2 f3 f4 f5
                have HS := Lib.hid (fun (Y : World) (hB : Below Wp.heap.size Wp Y) => (show Y.cell? ⟨W.heap.size, 0, none⟩ = some rv ∧ Y.cell? ⟨W.heap.size, 1, none⟩ = some (.slice az nz cz) ∧ Y.cell? ⟨W.heap.size, 2, none⟩ = some (.slice (some ⟨b, o, none⟩) nl cl) ∧ Y.cell? ⟨W.heap.size, 3, none⟩ = some sv ∧ Y.cell? ⟨b, o + i * 2, none⟩ = some (.string v0) ∧ Y.cell? ⟨b, o + i * 2 + 1, none⟩ = some (.string v1) ∧ b < Y.heap.size ∧ Below Wp.heap.size Wp Y from
                  ⟨cells_at ((KA.out.keep hB).at 2 rfl) 0, cells_at ((KA.out.keep hB).at 2 rfl) 1, cells_at ((KA.out.keep hB).at 2 rfl) 2, cells_at ((KA.out.keep hB).at 2 rfl) 3, ((KA.out.keep hB).below.cell (p := ⟨b, o + i * 2, none⟩) hb).trans hc0.out, ((KA.out.keep hB).below.cell (p := ⟨b, o + i * 2 + 1, none⟩) hb).trans hc1'.out, Nat.lt_of_lt_of_le hb (KA.out.keep hB).below.size, hB⟩))
                have HWp := Lib.hid (fun (Y : World) (hB : Below Wp.heap.size Wp Y) => (show Below W.heap.size W Y from (KA.out.keep hB).below))
                have HX0 : Hid (Below Wp.heap.size Wp Wp.drew) := Lib.hid (bdrew Wp)
                obtain ⟨t0, t1, t2, t3, t4, t5, t6, _⟩ := HS.out Wp (Below.refl _ _)
                go_region_held3 (fun w' => w'.cell? ⟨W.heap.size, 0, none⟩ = some rv ∧ w'.cell? ⟨W.heap.size, 1, none⟩ = some (.slice az nz cz) ∧ w'.cell? ⟨W.heap.size, 2, none⟩ = some (.slice (some ⟨b, o, none⟩) nl cl) ∧ w'.cell? ⟨W.heap.size, 3, none⟩ = some sv ∧ w'.cell? ⟨b, o + i * 2, none⟩ = some (.string v0) ∧ w'.cell? ⟨b, o + i * 2 + 1, none⟩ = some (.string v1) ∧ b < w'.heap.size ∧ Below Wp.heap.size Wp w')
                  (first | with_reducible exact HS.out _ HX2.out | with_reducible exact HS.out _ HX1.out | with_reducible exact HS.out _ HX0.out)
                  (first
                    | (go_at_call 54; refine (CZx.out _ (HWp.out _ HX0.out)).mono ?_; rintro e X ⟨rfl, hb2⟩; have HX1 : Hid (Below Wp.heap.size Wp X) := Lib.hid (HX0.out.trans (hb2.mono HX0.out.size)); clear hb2)
                    | (go_at_call 55; refine (CLx.out _ (HWp.out _ HX1.out)).mono ?_; rintro e Y ⟨rfl, hb2⟩; have HX2 : Hid (Below Wp.heap.size Wp Y) := Lib.hid (HX1.out.trans (hb2.mono HX1.out.size)); clear hb2))
                all_goals
                  obtain ⟨s0, s1, s2, s3, s4, s5, s6, _⟩ := HS.out _ HX2.out
                  go_upto_region 17 with fail
                  have HX3 := Lib.hid (Below.drew HX2.out)
                  go_region_held3 (fun w' => w'.cell? ⟨W.heap.size, 0, none⟩ = some rv ∧ w'.cell? ⟨W.heap.size, 1, none⟩ = some (.slice az nz cz) ∧ w'.cell? ⟨W.heap.size, 2, none⟩ = some (.slice (some ⟨b, o, none⟩) nl cl) ∧ w'.cell? ⟨W.heap.size, 3, none⟩ = some sv ∧ w'.cell? ⟨b, o + i * 2, none⟩ = some (.string v0) ∧ w'.cell? ⟨b, o + i * 2 + 1, none⟩ = some (.string v1) ∧ b < w'.heap.size ∧ Below Wp.heap.size Wp w')
                    (first | with_reducible exact HS.out _ HX4.out | with_reducible exact HS.out _ HX3.out)
                    (first | (go_at_call 56; refine (CKx.out _ (HWp.out _ HX3.out)).mono ?_; rintro e X4 ⟨rfl, hb2⟩; have HX4 : Hid (Below Wp.heap.size Wp X4) := Lib.hid (HX3.out.trans (hb2.mono HX3.out.size)); clear hb2))
                  all_goals
                    cases r with
                    | true =>
                      go_wp2_with fail
                      go_roundw
                      case rel =>
                        refine ⟨i + 1, by omega, by go_num, fun j hj => ?_, HBA.out.trans (HX4.out.mono HBA.out.size)⟩
                        by_cases hj2 : j < i
                        · exact HL.out j hj2
                        · obtain rfl : j = i := by omega
                          rw [HE.out]; rfl
                      case measure => simp [intOf]; omega
                    | false =>
                      obtain ⟨rfl, rfl, rfl⟩ := Fin.out 9 (by rw [HE.out]; rfl) (by decide)
                      have K2 := Lib.hid (KA.out.keep HX4.out)
                      obtain ⟨⟨d0, d1, d2⟩, _⟩ := row3 (K2.out.at 0 rfl)
                      obtain ⟨⟨f0, f1, f2⟩, f3, f4, f5⟩ := row3 (K2.out.at 1 rfl)
                      go_wp2_with fail
                      have KF := Lib.hid (((K2.out.set 1 rfl 0 (.int .i64 3) rfl).set 1 rfl 1 (.int .i64 (i : Int)) rfl).set 1 rfl 2 (.int .i64 0) rfl)
                      obtain ⟨⟨r0, r1, r2⟩, _⟩ := row3 (KF.out.at 1 rfl)
                      refine bodyPost_ret (v := .tuple #[.agg #[.int .i64 3, .int .i64 (i : Int), .int .i64 0], .int .i64 9]) (by simp [results, Tryd.results31, go_sem, r0, r1, r2]) rfl ⟨rfl, KF.out.below⟩
              · rw [if_pos (.inr hpi)] at hE
                obtain ⟨rfl, rfl, rfl⟩ := Fin.out 10 hE (by decide)
                have hpi2 : (p : Int) < (i : Int) := by omega
                clear hE hg1 hple hpi
                go_upto_region 15 with (first | (go_at_call 53; refine (hzone.out _).mono ?_; rintro e w' ⟨rfl, rfl⟩; obtain ⟨Wp, hWp⟩ : ∃ X, wr.alloc (.cells #[.int .i64 3, .int .i64 (i : Int), .int .i64 0] 71) = X := ⟨_, rfl⟩; rw [hWp] at KA HBA ⊢; clear hWp; obtain ⟨⟨d0, d1, d2⟩, _⟩ := row3 (KA.out.at 0 rfl); obtain ⟨⟨f0, f1, f2⟩, f3, f4, f5⟩ := row3 (KA.out.at 1 rfl)))
                clear d0 d1 d2 f0 f1 f2 f3 f4 f5
                have HS := Lib.hid (fun (Y : World) (hB : Below Wp.heap.size Wp Y) => (show Y.cell? ⟨W.heap.size, 0, none⟩ = some rv ∧ Y.cell? ⟨W.heap.size, 1, none⟩ = some (.slice az nz cz) ∧ Y.cell? ⟨W.heap.size, 2, none⟩ = some (.slice (some ⟨b, o, none⟩) nl cl) ∧ Y.cell? ⟨W.heap.size, 3, none⟩ = some sv ∧ Y.cell? ⟨b, o + i * 2, none⟩ = some (.string v0) ∧ Y.cell? ⟨b, o + i * 2 + 1, none⟩ = some (.string v1) ∧ b < Y.heap.size ∧ Below Wp.heap.size Wp Y from
                  ⟨cells_at ((KA.out.keep hB).at 2 rfl) 0, cells_at ((KA.out.keep hB).at 2 rfl) 1, cells_at ((KA.out.keep hB).at 2 rfl) 2, cells_at ((KA.out.keep hB).at 2 rfl) 3, ((KA.out.keep hB).below.cell (p := ⟨b, o + i * 2, none⟩) hb).trans hc0.out, ((KA.out.keep hB).below.cell (p := ⟨b, o + i * 2 + 1, none⟩) hb).trans hc1'.out, Nat.lt_of_lt_of_le hb (KA.out.keep hB).below.size, hB⟩))
                have HWp := Lib.hid (fun (Y : World) (hB : Below Wp.heap.size Wp Y) => (show Below W.heap.size W Y from (KA.out.keep hB).below))
                have HX0 : Hid (Below Wp.heap.size Wp Wp.drew) := Lib.hid (bdrew Wp)
                obtain ⟨t0, t1, t2, t3, t4, t5, t6, _⟩ := HS.out Wp (Below.refl _ _)
                go_region_held3 (fun w' => w'.cell? ⟨W.heap.size, 0, none⟩ = some rv ∧ w'.cell? ⟨W.heap.size, 1, none⟩ = some (.slice az nz cz) ∧ w'.cell? ⟨W.heap.size, 2, none⟩ = some (.slice (some ⟨b, o, none⟩) nl cl) ∧ w'.cell? ⟨W.heap.size, 3, none⟩ = some sv ∧ w'.cell? ⟨b, o + i * 2, none⟩ = some (.string v0) ∧ w'.cell? ⟨b, o + i * 2 + 1, none⟩ = some (.string v1) ∧ b < w'.heap.size ∧ Below Wp.heap.size Wp w')
                  (first | with_reducible exact HS.out _ HX2.out | with_reducible exact HS.out _ HX1.out | with_reducible exact HS.out _ HX0.out)
                  (first
                    | (go_at_call 54; refine (CZx.out _ (HWp.out _ HX0.out)).mono ?_; rintro e X ⟨rfl, hb2⟩; have HX1 : Hid (Below Wp.heap.size Wp X) := Lib.hid (HX0.out.trans (hb2.mono HX0.out.size)); clear hb2)
                    | (go_at_call 55; refine (CLx.out _ (HWp.out _ HX1.out)).mono ?_; rintro e Y ⟨rfl, hb2⟩; have HX2 : Hid (Below Wp.heap.size Wp Y) := Lib.hid (HX1.out.trans (hb2.mono HX1.out.size)); clear hb2))
                all_goals
                  have K2 := Lib.hid (KA.out.keep HX2.out)
                  obtain ⟨⟨d0, d1, d2⟩, _⟩ := row3 (K2.out.at 0 rfl)
                  obtain ⟨⟨f0, f1, f2⟩, f3, f4, f5⟩ := row3 (K2.out.at 1 rfl)
                  go_wp2_with fail
                  have KF := Lib.hid (((K2.out.set 1 rfl 0 (.int .i64 3) rfl).set 1 rfl 1 (.int .i64 (i : Int)) rfl).set 1 rfl 2 (.int .i64 0) rfl)
                  obtain ⟨⟨r0, r1, r2⟩, _⟩ := row3 (KF.out.at 1 rfl)
                  refine bodyPost_ret (v := .tuple #[.agg #[.int .i64 3, .int .i64 (i : Int), .int .i64 0], .int .i64 10]) (by simp [results, Tryd.results31, go_sem, r0, r1, r2]) rfl ⟨rfl, KF.out.below⟩
        · obtain rfl : nl = k := by omega
          go_wp2_with fail
          clear u0 u1 u2 u3 HK
          have HL' := Lib.hid (fun j (hj : j < L.length) => HL.out j (by rw [HNl.out] at hj; exact hj))
          clear HL
          go_loopw [8, 9, 10] (fun i8 _ _ wr => ∃ i : Nat, i ≤ nl ∧ i8 = .int .i64 (i : Int) ∧ (∀ j, j < i → (findL (znames Z) L ((nm L).getD j [])).2 ≠ 11) ∧ Below W1.heap.size W1 wr) (fun i8 _ _ _ => nl - (intOf i8).toNat)
          case atStart => exact ⟨0, by omega, rfl, fun j hj => by omega, HB.out⟩
          case round =>
            clear HB
            obtain ⟨i, hi', rfl, hzz, hB⟩ := hrel
            have HB := Lib.hid hB
            have HO := Lib.hid hzz
            have KA := Lib.hid (K0.out.keep HB.out)
            obtain ⟨u0, u1, u2, u3⟩ := row4 (KA.out.at 1 rfl)
            clear hB hzz
            by_cases hlt : i < nl
            · obtain ⟨b, o, c', e1, _, _, hb, hcell⟩ := HAl.out (by omega)
              simp only [Value.slice.injEq] at e1
              obtain ⟨rfl, _, rfl⟩ := e1
              obtain ⟨x, hx⟩ : ∃ x, L[i]? = some x := ⟨_, List.getElem?_eq_getElem (by rw [HNl.out]; exact hlt)⟩
              obtain ⟨q0, q1⟩ := lk_at L hx
              have hc0 := Lib.hid (show W.cell? ⟨b, o + i * 2, none⟩ = some (.string (bs x.2)) from hcell _ _ q0)
              have hc1' := Lib.hid (show W.cell? ⟨b, o + i * 2 + 1, none⟩ = some (.string (bs x.1)) from hcell _ _ q1)
              have hzx := getD_of (nm_at hx) []
              have HIl := Lib.hid (show i < L.length by rw [HNl.out]; exact hlt)
              have HLp := Lib.hid (fun (h0 : (findL (znames Z) L ((nm L).getD i [])).2 = 11) => check_loop (znames Z) L zoneOk HZ'.out HL'.out HIl.out h0 HO.out)
              rw [hzx] at HLp
              have CFx := Lib.hid (fun (Y : World) (hB : Below W.heap.size W Y) => CF.out Y hB x.1)
              obtain ⟨F, hF⟩ : ∃ F, findL (znames Z) L x.1 = F := ⟨_, rfl⟩
              rw [hF] at CFx HLp
              have HF := Lib.hid (show (findL (znames Z) L ((nm L).getD i [])).2 = F.2 by rw [hzx, hF])
              obtain ⟨F1, F2⟩ := F
              obtain ⟨v0, hv0⟩ : ∃ v, bs x.2 = v := ⟨_, rfl⟩
              rw [hv0] at hc0
              obtain ⟨v1, hv1⟩ : ∃ v, bs x.1 = v := ⟨_, rfl⟩
              rw [hv1] at hc1' CFx
              clear hx hcell q0 q1 hzx hv0 hv1 hF
              have hbw := Nat.lt_of_lt_of_le hb KA.out.below.size
              obtain ⟨Wp, rfl⟩ : ∃ X, X = wr := ⟨wr, rfl⟩
              have HS := Lib.hid (fun (Y : World) (hB : Below Wp.heap.size Wp Y) => (show Y.cell? ⟨W.heap.size, 0, none⟩ = some rv ∧ Y.cell? ⟨W.heap.size, 1, none⟩ = some (.slice az nz cz) ∧ Y.cell? ⟨W.heap.size, 2, none⟩ = some (.slice (some ⟨b, o, none⟩) nl cl) ∧ Y.cell? ⟨W.heap.size, 3, none⟩ = some sv ∧ Y.cell? ⟨b, o + i * 2, none⟩ = some (.string v0) ∧ Y.cell? ⟨b, o + i * 2 + 1, none⟩ = some (.string v1) ∧ b < Y.heap.size ∧ Below Wp.heap.size Wp Y from
                ⟨cells_at ((KA.out.keep hB).at 1 rfl) 0, cells_at ((KA.out.keep hB).at 1 rfl) 1, cells_at ((KA.out.keep hB).at 1 rfl) 2, cells_at ((KA.out.keep hB).at 1 rfl) 3, ((KA.out.keep hB).below.cell (p := ⟨b, o + i * 2, none⟩) hb).trans hc0.out, ((KA.out.keep hB).below.cell (p := ⟨b, o + i * 2 + 1, none⟩) hb).trans hc1'.out, Nat.lt_of_lt_of_le hb (KA.out.keep hB).below.size, hB⟩))
              have HWp := Lib.hid (fun (Y : World) (hB : Below Wp.heap.size Wp Y) => (show Below W.heap.size W Y from (KA.out.keep hB).below))
              have HX0 : Hid (Below Wp.heap.size Wp Wp.drew) := Lib.hid (bdrew Wp)
              obtain ⟨t0, t1, t2, t3, t4, t5, t6, _⟩ := HS.out Wp (Below.refl _ _)
              go_upto_region 22 with fail
              by_cases h11 : F2 = 11
              · subst h11
                have e0 := HLp.out rfl
                rw [HR.out] at e0
                simp only [Prod.mk.injEq] at e0
                obtain ⟨⟨rfl, rfl⟩, rfl⟩ := e0
                go_region_held3 (fun w' => w'.cell? ⟨W.heap.size, 0, none⟩ = some rv ∧ w'.cell? ⟨W.heap.size, 1, none⟩ = some (.slice az nz cz) ∧ w'.cell? ⟨W.heap.size, 2, none⟩ = some (.slice (some ⟨b, o, none⟩) nl cl) ∧ w'.cell? ⟨W.heap.size, 3, none⟩ = some sv ∧ w'.cell? ⟨b, o + i * 2, none⟩ = some (.string v0) ∧ w'.cell? ⟨b, o + i * 2 + 1, none⟩ = some (.string v1) ∧ b < w'.heap.size ∧ Below Wp.heap.size Wp w')
                  (first | with_reducible exact HS.out _ HX1.out | with_reducible exact HS.out _ HX0.out)
                  (first | (go_at_call 32; refine (CFx.out _ (HWp.out _ HX0.out)).mono ?_; rintro e X ⟨rfl, hb2⟩; have HX1 : Hid (Below Wp.heap.size Wp X) := Lib.hid (HX0.out.trans (hb2.mono HX0.out.size)); clear hb2))
                all_goals
                  have K2 := Lib.hid (KA.out.keep HX1.out)
                  obtain ⟨⟨f0, f1, f2⟩, f3, f4, f5⟩ := row3 (K2.out.at 0 rfl)
                  go_wp2_with fail
                  have KF := Lib.hid (((K2.out.set 0 rfl 0 (.int .i64 3) rfl).set 0 rfl 1 (.int .i64 (i : Int)) rfl).set 0 rfl 2 (.int .i64 0) rfl)
                  obtain ⟨⟨r0, r1, r2⟩, _⟩ := row3 (KF.out.at 0 rfl)
                  refine bodyPost_ret (v := .tuple #[.agg #[.int .i64 3, .int .i64 (i : Int), .int .i64 0], .int .i64 11]) (by simp [results, Tryd.results31, go_sem, r0, r1, r2]) rfl ⟨rfl, KF.out.below⟩
              · go_region_held3 (fun w' => w'.cell? ⟨W.heap.size, 0, none⟩ = some rv ∧ w'.cell? ⟨W.heap.size, 1, none⟩ = some (.slice az nz cz) ∧ w'.cell? ⟨W.heap.size, 2, none⟩ = some (.slice (some ⟨b, o, none⟩) nl cl) ∧ w'.cell? ⟨W.heap.size, 3, none⟩ = some sv ∧ w'.cell? ⟨b, o + i * 2, none⟩ = some (.string v0) ∧ w'.cell? ⟨b, o + i * 2 + 1, none⟩ = some (.string v1) ∧ b < w'.heap.size ∧ Below Wp.heap.size Wp w')
                  (first | with_reducible exact HS.out _ HX1.out | with_reducible exact HS.out _ HX0.out)
                  (first | (go_at_call 32; refine (CFx.out _ (HWp.out _ HX0.out)).mono ?_; rintro e X ⟨rfl, hb2⟩; have HX1 : Hid (Below Wp.heap.size Wp X) := Lib.hid (HX0.out.trans (hb2.mono HX0.out.size)); clear hb2))
                all_goals
                  go_wp2_with fail
                  go_roundw
                  case rel =>
                    refine ⟨i + 1, by omega, by go_num, fun j hj => ?_, HB.out.trans (HX1.out.mono HB.out.size)⟩
                    by_cases hj2 : j < i
                    · exact HO.out j hj2
                    · obtain rfl : j = i := by omega
                      rw [HF.out]
                      exact h11
                  case measure => simp [intOf]; omega
            · obtain rfl : nl = i := by omega
              have e0 := check_fine (znames Z) L zoneOk HZ'.out HL'.out (fun j hj => HO.out j (by rw [HNl.out] at hj; exact hj))
              rw [HR.out] at e0
              simp only [Prod.mk.injEq] at e0
              obtain ⟨⟨rfl, rfl⟩, rfl⟩ := e0
              obtain ⟨⟨f0, f1, f2⟩, f3, f4, f5⟩ := row3 (KA.out.at 0 rfl)
              go_wp2_with fail
              have KF := Lib.hid (((KA.out.set 0 rfl 0 (.int .i64 0) rfl).set 0 rfl 1 (.int .i64 0) rfl).set 0 rfl 2 (.int .i64 0) rfl)
              obtain ⟨⟨r0, r1, r2⟩, _⟩ := row3 (KF.out.at 0 rfl)
              refine bodyPost_ret (v := .tuple #[.agg #[.int .i64 0, .int .i64 0, .int .i64 0], .int .i64 0]) (by simp [results, Tryd.results31, go_sem, r0, r1, r2]) rfl ⟨rfl, KF.out.below⟩
end Go.Proofs.YtnffecoohkanhaaDoor.Px
