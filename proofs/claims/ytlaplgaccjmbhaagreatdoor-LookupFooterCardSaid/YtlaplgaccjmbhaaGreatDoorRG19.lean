/- Which transitions are not behind an instant: slices.BinarySearchFunc, lookup.Index, analemmaref45.Index. Lookup in tables: lookup.Index, lookup.At, analemmaref45.Index, analemmaref45.At. -/
import Derived.Test.YtlaplgaccjmbhaaGreatDoorSG17
import Derived.Test.YtlaplgaccjmbhaaGreatDoorRG14x
namespace Go.Proofs.YtlaplgaccjmbhaaGreatDoor.Px
open Go.RowKit
open Tb
theorem cmp_any (a y t : Int) (w : World) : Calls Tryz.prog 47 #[.agg #[.int .i64 a, .int .i64 y], .int .i64 t] w fun e w' => e = .returned (.int .i64 (if a ≤ t then -1 else 1)) ∧ Below w.heap.size w w' := by
  have K0 := Lib.hid ((Kp.start w).alloc (.cells #[.int .i64 a, .int .i64 y] 59))
  by_cases h : a ≤ t
  · rw [if_pos h]
    go_enter Tryz.func47, Tryz.ntmps47
    go_wp2_with fail
    go_ret
    exact ⟨rfl, K0.out.below⟩
  · rw [if_neg h]
    go_enter Tryz.func47, Tryz.ntmps47
    go_wp2_with fail
    go_ret
    exact ⟨rfl, K0.out.below⟩
theorem enters_cmp : ∀ args w, (callFunc 47 args).run Tryz.prog w = .ok (.enter 47 args) w := enters_of Tryz.func47 (by kernel_rfl) rfl
set_option maxHeartbeats 4000000 in
set_option maxRecDepth 100000 in
theorem search_any (R : List Tr) (v : Value) (t : Int) (W : World) (h : TrV W v R) (hp : R.Pairwise (fun a b => a.at' < b.at')) (hmax : R.length ≤ 1000000000000) :
    Calls Tryz.prog 46 #[v, .int .i64 t, .func (.func 47) #[] #[]] W fun e w' => e = .returned (.tuple #[.int .i64 (idxT R t), .bool false]) ∧ Below W.heap.size W w' := by
  have HI := Lib.hid (fun i x hx => idx_first (t := t) hp i x hx)
  have hle := idx_le R t
  obtain ⟨a, c, rfl, h1, h2⟩ := h.slice
  have hall := fun h0 => h.all h0
  obtain ⟨n, hn⟩ : ∃ n, R.length = n := ⟨_, rfl⟩
  rw [hn] at h1 hle hall hmax
  rw [hn]
  obtain ⟨I, hI⟩ : ∃ I, idxT R t = I := ⟨_, rfl⟩
  rw [hI] at HI hle
  rw [hI]
  have HA := Lib.hid hall
  have HN := Lib.hid hn
  have hef := enters_cmp
  unfold maxLen at h2
  clear h hp hall hI hn
  go_enter Tryz.func46, Tryz.ntmps46
  go_wp2_with fail
  go_loopw [9, 10, 11] (fun i9 j10 _ wr => ∃ i j : Nat, i9 = .int .i64 i ∧ j10 = .int .i64 j ∧ i ≤ I ∧ I ≤ j ∧ j ≤ n ∧ Below W.heap.size W wr) (fun i9 j10 _ _ => (intOf j10).toNat - (intOf i9).toNat)
  case atStart => exact ⟨0, n, rfl, rfl, by omega, by omega, by omega, Below.refl _ _⟩
  case round =>
    obtain ⟨i, j, rfl, rfl, hi, hj, hjn, hB⟩ := hrel
    have HB := Lib.hid hB
    clear hB
    by_cases hlt : i < j
    · obtain ⟨b, o, c', e1, _, _, hb, hcell⟩ := HA.out (by omega)
      simp only [Value.slice.injEq] at e1
      obtain ⟨rfl, _, rfl⟩ := e1
      obtain ⟨h, hh, l1, l2⟩ : ∃ h : Nat, ((i : Int) + (j : Int)) / 2 = (h : Int) ∧ i ≤ h ∧ h < j := ⟨(i + j) / 2, by omega, by omega, by omega⟩
      obtain ⟨x, hx⟩ : ∃ x, R[h]? = some x := ⟨_, List.getElem?_eq_getElem (by have := HN.out; omega)⟩
      obtain ⟨c0, c1⟩ := hcell h x hx
      have hxi := HI.out h x hx
      have k0 := (HB.out.cell (p := ⟨b, o + h * 2, none⟩) hb).trans c0
      have k1 := (HB.out.cell (p := ⟨b, o + h * 2 + 1, none⟩) hb).trans c1
      obtain ⟨xa, xt⟩ := x
      dsimp only at k0 k1 hxi
      have CC := Lib.hid (fun w => cmp_any xa xt t w)
      clear hcell hx c0 c1
      by_cases hc : xa ≤ t
      · have hI := hxi.1 hc
        rw [if_pos hc] at CC
        clear hxi hc
        go_wp2_with (go_at_fn 47; refine (CC.out _).mono ?_; rintro _ V ⟨rfl, hbv⟩; have HV := Lib.hid (HB.out.trans (hbv.mono HB.out.size)); clear hbv)
        go_roundw
        case rel => exact ⟨h + 1, j, by go_num, rfl, by omega, by omega, by omega, HV.out⟩
        case measure => simp [intOf]; omega
      · have hI : ¬ h < I := fun e => hc (hxi.2 e)
        rw [if_neg hc] at CC
        clear hxi hc
        go_wp2_with (go_at_fn 47; refine (CC.out _).mono ?_; rintro _ V ⟨rfl, hbv⟩; have HV := Lib.hid (HB.out.trans (hbv.mono HB.out.size)); clear hbv)
        go_roundw
        case rel => exact ⟨i, h, rfl, by go_num, by omega, by omega, by omega, HV.out⟩
        case measure => simp [intOf]; omega
    · obtain rfl : i = I := by omega
      obtain rfl : j = i := by omega
      by_cases hin : j < n
      · obtain ⟨b, o, c', e1, _, _, hb, hcell⟩ := HA.out (by omega)
        simp only [Value.slice.injEq] at e1
        obtain ⟨rfl, _, rfl⟩ := e1
        obtain ⟨x, hx⟩ : ∃ x, R[j]? = some x := ⟨_, List.getElem?_eq_getElem (by have := HN.out; omega)⟩
        obtain ⟨c0, c1⟩ := hcell j x hx
        have hxi := HI.out j x hx
        have k0 := (HB.out.cell (p := ⟨b, o + j * 2, none⟩) hb).trans c0
        have k1 := (HB.out.cell (p := ⟨b, o + j * 2 + 1, none⟩) hb).trans c1
        obtain ⟨xa, xt⟩ := x
        dsimp only at k0 k1 hxi
        have CC := Lib.hid (fun w => cmp_any xa xt t w)
        rw [if_neg (fun e => by have := hxi.1 e; omega)] at CC
        clear hcell hx c0 c1 hxi
        go_wp2_with (go_at_fn 47; refine (CC.out _).mono ?_; rintro _ V ⟨rfl, hbv⟩; have HV := Lib.hid (HB.out.trans (hbv.mono HB.out.size)); clear hbv)
        go_ret2
        exact ⟨rfl, HV.out⟩
      · go_wp2_with fail
        go_ret2
        exact ⟨rfl, HB.out⟩
end Go.Proofs.YtlaplgaccjmbhaaGreatDoor.Px
namespace Go.Proofs.YtlaplgaccjmbhaaGreatDoor.Px
open Go.RowKit
open Tb
/-- how many transitions are not behind an instant, or the error -/
def idxE (x : Tab) (t : Int) : Nat × Int := if checkE x ≠ 0 then (0, 2) else if t < -36028797018963968 ∨ 36028797018963968 < t then (0, 3) else (idxT x.trans t, 0)
theorem idxE_bad {x : Tab} {t : Int} (h : checkE x ≠ 0) : idxE x t = (0, 2) := by unfold idxE; rw [if_pos h]
theorem idxE_rng {x : Tab} {t : Int} (h : checkE x = 0) (h2 : t < -36028797018963968 ∨ 36028797018963968 < t) : idxE x t = (0, 3) := by unfold idxE; rw [if_neg (fun q => q h), if_pos h2]
theorem idxE_ok {x : Tab} {t : Int} (h : checkE x = 0) (h2 : ¬ (t < -36028797018963968 ∨ 36028797018963968 < t)) : idxE x t = (idxT x.trans t, 0) := by unfold idxE; rw [if_neg (fun q => q h), if_neg h2]
theorem check_zero {x : Tab} (h : checkE x = 0) : typesE x.types = 0 ∧ transE x = 0 ∧ footE x = 0 := by
  unfold checkE at h
  by_cases h1 : typesE x.types ≠ 0
  · rw [if_pos h1] at h; exact absurd h h1
  rw [if_neg h1] at h
  by_cases h2 : transE x ≠ 0
  · rw [if_pos h2] at h; exact absurd h h2
  rw [if_neg h2] at h
  exact ⟨Decidable.of_not_not h1, Decidable.of_not_not h2, h⟩
theorem foot_zero {x : Tab} (h : footE x = 0) : (finG rfF x.foot).2 = 0 := by
  unfold footE at h
  by_cases h1 : (finG rfF x.foot).2 ≠ 0
  · rw [if_pos h1] at h; exact absurd h h1
  · exact Decidable.of_not_not h1
/-- the local time at an instant -/
def lookL (x : Tab) (t : Int) : Lc × Int :=
  if (idxE x t).2 ≠ 0 then (⟨0, false, ⟨#[]⟩⟩, (idxE x t).2)
  else if (idxE x t).1 = x.trans.length then atL (finG rfF x.foot).1 t
  else if (idxE x t).1 = 0 then (x.types.getD 0 Lc.zero, 0)
  else (x.types.getD (x.trans.getD ((idxE x t).1 - 1) ⟨0, 0⟩).ty.toNat Lc.zero, 0)
theorem idx_snoc {R : List Tr} {i : Nat} {x : Tr} {t : Int} (hx : R[i]? = some x) : idxT (R.take (i + 1)) t = if x.at' ≤ t then idxT (R.take i) t + 1 else idxT (R.take i) t := by
  rw [List.take_add_one, hx]
  unfold idxT
  rw [List.filter_append]
  by_cases h : x.at' ≤ t
  · simp [h]
  · simp [h]
set_option maxHeartbeats 4000000 in
set_option maxRecDepth 100000 in
theorem index_any' (x : Tab) (tv rv : Value) (f : ByteArray) (t : Int) (W : World) (h : TabV W tv rv f x) (hE : EnvAt W) (hmax : x.trans.length ≤ 1000000000000) :
    Calls Tryz.prog 18 #[.agg #[tv, rv, .string f], .int .i64 t] W fun e w' => e = .returned (.tuple #[.int .i64 ((idxE x t).1 : Nat), .int .i64 (idxE x t).2]) ∧ Below W.heap.size W w' := by
  have K0 := Lib.hid ((Kp.start W).alloc (.cells #[tv, rv, .string f] 25))
  have CC := Lib.hid (fun w h hE => tcheck_any x tv rv f w h hE)
  have HT := Lib.hid h
  have HE := Lib.hid hE
  by_cases h1 : checkE x = 0
  case neg =>
    rw [idxE_bad h1]
    obtain ⟨E, hE2⟩ : ∃ E, checkE x = E := ⟨_, rfl⟩
    rw [hE2] at CC h1
    clear hE2 h hE
    go_enter Tryz.func18, Tryz.ntmps18
    go_wp2_with fail
    refine (CC.out _ (HT.out.keep K0.out.below) (HE.out.keep K0.out.below)).mono ?_
    rintro _ V ⟨rfl, hb⟩
    have K1 := Lib.hid (K0.out.keep hb)
    clear hb
    go_wp2_with fail
    go_ret2
    exact ⟨rfl, K1.out.below⟩
  have hi := (transGo_ok _ _ _ _ (check_zero h1).2.1).inc
  have CS := Lib.hid (fun v w h => search_any x.trans v t w h hi hmax)
  by_cases h2 : t < -36028797018963968 ∨ 36028797018963968 < t
  · rw [idxE_rng h1 h2]
    rw [h1] at CC
    clear h1 h hE hi
    go_enter Tryz.func18, Tryz.ntmps18
    go_wp2_with fail
    refine (CC.out _ (HT.out.keep K0.out.below) (HE.out.keep K0.out.below)).mono ?_
    rintro _ V ⟨rfl, hb⟩
    have K1 := Lib.hid (K0.out.keep hb)
    clear hb
    go_wp2_with fail
    all_goals
      go_ret2
      exact ⟨rfl, K1.out.below⟩
  rw [idxE_ok h1 h2]
  rw [h1] at CC
  have r0 : ¬ t < -36028797018963968 := by omega
  have r1 : ¬ 36028797018963968 < t := by omega
  obtain ⟨I, hI⟩ : ∃ I, idxT x.trans t = I := ⟨_, rfl⟩
  rw [hI] at CS
  rw [hI]
  clear h1 h hE hi h2 hI hmax
  go_enter Tryz.func18, Tryz.ntmps18
  go_wp2_with fail
  refine (CC.out _ (HT.out.keep K0.out.below) (HE.out.keep K0.out.below)).mono ?_
  rintro _ V ⟨rfl, hb⟩
  have K1 := Lib.hid (K0.out.keep hb)
  obtain ⟨⟨m0, m1, m2⟩, _, _, _⟩ := row3 (K1.out.at 0 rfl)
  have z0 := K1.out.lt 0 rfl
  clear hb
  go_wp2_with fail
  refine (CS.out _ _ (HT.out.trans.keep K1.out.below)).mono ?_
  rintro _ V2 ⟨rfl, hb⟩
  have K2 := Lib.hid (K1.out.keep hb)
  clear hb
  go_wp2_with fail
  go_ret2
  exact ⟨rfl, K2.out.below⟩
set_option maxHeartbeats 4000000 in
set_option maxRecDepth 100000 in
theorem rindex_any (x : Tab) (tv rv : Value) (f : ByteArray) (t : Int) (W : World) (h : TabV W tv rv f x) :
    Calls Tryz.prog 19 #[.agg #[tv, rv, .string f], .int .i64 t] W fun e w' => e = .returned (.tuple #[.int .i64 ((idxE x t).1 : Nat), .int .i64 (idxE x t).2]) ∧ Below W.heap.size W w' := by
  obtain ⟨ra, rc, hrv, hr1, hr2⟩ := h.trans.slice
  have hall := fun h0 => h.trans.all h0
  obtain ⟨N, hN⟩ : ∃ n, x.trans.length = n := ⟨_, rfl⟩
  rw [hN] at hrv hr1 hall
  subst hrv
  unfold maxLen at hr2
  have HN := Lib.hid hN
  have HA := Lib.hid hall
  have K0 := Lib.hid ((Kp.start W).alloc (.cells #[tv, .slice ra N rc, .string f] 25))
  have CC := Lib.hid (fun w h => rcheck_any x tv (.slice ra N rc) f w h)
  have HT := Lib.hid h
  clear hN hall
  by_cases h1 : checkE x = 0
  case neg =>
    rw [idxE_bad h1]
    obtain ⟨E, hE2⟩ : ∃ E, checkE x = E := ⟨_, rfl⟩
    rw [hE2] at CC h1
    clear hE2 h
    go_enter Tryz.func19, Tryz.ntmps19
    go_wp2_with fail
    refine (CC.out _ (HT.out.keep K0.out.below)).mono ?_
    rintro _ V ⟨rfl, hb⟩
    have K1 := Lib.hid (K0.out.keep hb)
    clear hb
    go_wp2_with fail
    go_ret2
    exact ⟨rfl, K1.out.below⟩
  by_cases h2 : t < -36028797018963968 ∨ 36028797018963968 < t
  · rw [idxE_rng h1 h2]
    rw [h1] at CC
    clear h1 h
    go_enter Tryz.func19, Tryz.ntmps19
    go_wp2_with fail
    refine (CC.out _ (HT.out.keep K0.out.below)).mono ?_
    rintro _ V ⟨rfl, hb⟩
    have K1 := Lib.hid (K0.out.keep hb)
    clear hb
    go_wp2_with fail
    all_goals
      go_ret2
      exact ⟨rfl, K1.out.below⟩
  rw [idxE_ok h1 h2]
  rw [h1] at CC
  have r0 : ¬ t < -36028797018963968 := by omega
  have r1 : ¬ 36028797018963968 < t := by omega
  obtain ⟨R, hR⟩ : ∃ R, x.trans = R := ⟨_, rfl⟩
  rw [hR] at HN HA
  rw [hR]
  clear h1 h h2 hR
  go_enter Tryz.func19, Tryz.ntmps19
  go_wp2_with fail
  refine (CC.out _ (HT.out.keep K0.out.below)).mono ?_
  rintro _ V ⟨rfl, hb⟩
  have K1 := Lib.hid (K0.out.keep hb)
  clear hb
  go_wp2_with fail
  go_loopw [6, 7] (fun n6 i7 wr => ∃ i m : Nat, i ≤ N ∧ i7 = .int .i64 i ∧ n6 = .int .i64 m ∧ m = idxT (R.take i) t ∧ m ≤ i ∧ Kp [(W.heap.size, .cells #[tv, .slice ra N rc, .string f] 25)] [] W wr) (fun _ i7 _ => N - (intOf i7).toNat)
  case atStart => exact ⟨0, 0, by omega, rfl, rfl, rfl, by omega, K1.out⟩
  case round =>
    obtain ⟨i, m, hi, rfl, rfl, hm, hmi, hK⟩ := hrel
    have HK := Lib.hid hK
    have HM := Lib.hid hm
    clear hK hm
    obtain ⟨⟨m0, m1, m2⟩, _, _, _⟩ := row3 (HK.out.at 0 rfl)
    by_cases hlt : i < N
    · obtain ⟨b, o, c, e1, _, _, hb, hcell⟩ := HA.out (by omega)
      simp only [Value.slice.injEq] at e1
      obtain ⟨rfl, _, rfl⟩ := e1
      obtain ⟨y, hy⟩ : ∃ y, R[i]? = some y := ⟨_, List.getElem?_eq_getElem (by have := HN.out; omega)⟩
      obtain ⟨c0, c1⟩ := hcell i y hy
      have k0 := (HK.out.below.cell (p := ⟨b, o + i * 2, none⟩) hb).trans c0
      have HS := Lib.hid (idx_snoc (t := t) hy)
      obtain ⟨ya, yt⟩ := y
      dsimp only at k0 HS
      clear hcell hy c0 c1
      by_cases hc : ya ≤ t
      · rw [if_pos hc] at HS
        go_wp2_with fail
        go_roundw
        case rel => exact ⟨i + 1, m + 1, by omega, by go_num, by go_num, by rw [HS.out, HM.out], by omega, HK.out⟩
        case measure => simp [intOf]; omega
      · rw [if_neg hc] at HS
        go_wp2_with fail
        go_roundw
        case rel => exact ⟨i + 1, m, by omega, by go_num, rfl, by rw [HS.out, HM.out], by omega, HK.out⟩
        case measure => simp [intOf]; omega
    · obtain rfl : N = i := by omega
      have HX := Lib.hid (show m = idxT R t by have := HM.out; rw [List.take_of_length_le (by have := HN.out; omega)] at this; exact this)
      go_wp2_with fail
      go_ret2
      exact ⟨by rw [← HX.out]; rfl, HK.out.below⟩
end Go.Proofs.YtlaplgaccjmbhaaGreatDoor.Px

