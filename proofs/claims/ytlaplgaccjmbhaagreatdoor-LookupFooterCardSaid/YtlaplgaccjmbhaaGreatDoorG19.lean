/- Which transitions are not behind an instant: slices.BinarySearchFunc, lookup.Index, analemmaref45.Index. Lookup in tables: lookup.Index, lookup.At, analemmaref45.Index, analemmaref45.At. Local times by tables: lookup.At and analemmaref45.At. The examples of chapter 45 hold: analemmalaw45.works returns true. The examples of chapter 45 hold: analemmalaw45.works returns true. -/
import Derived.Test.YtlaplgaccjmbhaaGreatDoorG17
namespace Go.Proofs.YtlaplgaccjmbhaaGreatDoor.Px
open Go.RowKit
open Tb

theorem cmp_any (a y t : Int) (w : World) : Calls Tryz.prog 47 #[.agg #[.int .i64 a, .int .i64 y], .int .i64 t] w fun e w' => e = .returned (.int .i64 (if a ≤ t then -1 else 1)) ∧ Below w.heap.size w w' := by
  have K0 := Lib.hid ((Kp.start w).alloc (.cells #[.int .i64 a, .int .i64 y] 59))
  by_cases h : a ≤ t
  · rw [if_pos h]
    go_enter Tryz.func47, Tryz.ntmps47
    go_wp2_with fail
    go_ret
    exact ⟨rfl, K0.out.below⟩
  · rw [if_neg h]
    go_enter Tryz.func47, Tryz.ntmps47
    go_wp2_with fail
    go_ret
    exact ⟨rfl, K0.out.below⟩
theorem enters_cmp : ∀ args w, (callFunc 47 args).run Tryz.prog w = .ok (.enter 47 args) w := enters_of Tryz.func47 (by kernel_rfl) rfl
set_option maxHeartbeats 4000000 in
set_option maxRecDepth 100000 in
theorem search_any (R : List Tr) (v : Value) (t : Int) (W : World) (h : TrV W v R) (hp : R.Pairwise (fun a b => a.at' < b.at')) (hmax : R.length ≤ 1000000000000) :
    Calls Tryz.prog 46 #[v, .int .i64 t, .func (.func 47) #[] #[]] W fun e w' => e = .returned (.tuple #[.int .i64 (idxT R t), .bool false]) ∧ Below W.heap.size W w' := by
  have HI := Lib.hid (fun i x hx => idx_first (t := t) hp i x hx)
  have hle := idx_le R t
  obtain ⟨a, c, rfl, h1, h2⟩ := h.slice
  have hall := fun h0 => h.all h0
  obtain ⟨n, hn⟩ : ∃ n, R.length = n := ⟨_, rfl⟩
  rw [hn] at h1 hle hall hmax
  rw [hn]
  obtain ⟨I, hI⟩ : ∃ I, idxT R t = I := ⟨_, rfl⟩
  rw [hI] at HI hle
  rw [hI]
  have HA := Lib.hid hall
  have HN := Lib.hid hn
  have hef := enters_cmp
  unfold maxLen at h2
  clear h hp hall hI hn
  go_enter Tryz.func46, Tryz.ntmps46
  go_wp2_with fail
  go_loopw [9, 10, 11] (fun i9 j10 _ wr => ∃ i j : Nat, i9 = .int .i64 i ∧ j10 = .int .i64 j ∧ i ≤ I ∧ I ≤ j ∧ j ≤ n ∧ Below W.heap.size W wr) (fun i9 j10 _ _ => (intOf j10).toNat - (intOf i9).toNat)
  case atStart => exact ⟨0, n, rfl, rfl, by omega, by omega, by omega, Below.refl _ _⟩
  case round =>
    obtain ⟨i, j, rfl, rfl, hi, hj, hjn, hB⟩ := hrel
    have HB := Lib.hid hB
    clear hB
    by_cases hlt : i < j
    · obtain ⟨b, o, c', e1, _, _, hb, hcell⟩ := HA.out (by omega)
      simp only [Value.slice.injEq] at e1
      obtain ⟨rfl, _, rfl⟩ := e1
      obtain ⟨h, hh, l1, l2⟩ : ∃ h : Nat, ((i : Int) + (j : Int)) / 2 = (h : Int) ∧ i ≤ h ∧ h < j := ⟨(i + j) / 2, by omega, by omega, by omega⟩
      obtain ⟨x, hx⟩ : ∃ x, R[h]? = some x := ⟨_, List.getElem?_eq_getElem (by have := HN.out; omega)⟩
      obtain ⟨c0, c1⟩ := hcell h x hx
      have hxi := HI.out h x hx
      have k0 := (HB.out.cell (p := ⟨b, o + h * 2, none⟩) hb).trans c0
      have k1 := (HB.out.cell (p := ⟨b, o + h * 2 + 1, none⟩) hb).trans c1
      obtain ⟨xa, xt⟩ := x
      dsimp only at k0 k1 hxi
      have CC := Lib.hid (fun w => cmp_any xa xt t w)
      clear hcell hx c0 c1
      by_cases hc : xa ≤ t
      · have hI := hxi.1 hc
        rw [if_pos hc] at CC
        clear hxi hc
        go_wp2_with (go_at_fn 47; refine (CC.out _).mono ?_; rintro _ V ⟨rfl, hbv⟩; have HV := Lib.hid (HB.out.trans (hbv.mono HB.out.size)); clear hbv)
        go_roundw
        case rel => exact ⟨h + 1, j, by go_num, rfl, by omega, by omega, by omega, HV.out⟩
        case measure => simp [intOf]; omega
      · have hI : ¬ h < I := fun e => hc (hxi.2 e)
        rw [if_neg hc] at CC
        clear hxi hc
        go_wp2_with (go_at_fn 47; refine (CC.out _).mono ?_; rintro _ V ⟨rfl, hbv⟩; have HV := Lib.hid (HB.out.trans (hbv.mono HB.out.size)); clear hbv)
        go_roundw
        case rel => exact ⟨i, h, rfl, by go_num, by omega, by omega, by omega, HV.out⟩
        case measure => simp [intOf]; omega
    · obtain rfl : i = I := by omega
      obtain rfl : j = i := by omega
      by_cases hin : j < n
      · obtain ⟨b, o, c', e1, _, _, hb, hcell⟩ := HA.out (by omega)
        simp only [Value.slice.injEq] at e1
        obtain ⟨rfl, _, rfl⟩ := e1
        obtain ⟨x, hx⟩ : ∃ x, R[j]? = some x := ⟨_, List.getElem?_eq_getElem (by have := HN.out; omega)⟩
        obtain ⟨c0, c1⟩ := hcell j x hx
        have hxi := HI.out j x hx
        have k0 := (HB.out.cell (p := ⟨b, o + j * 2, none⟩) hb).trans c0
        have k1 := (HB.out.cell (p := ⟨b, o + j * 2 + 1, none⟩) hb).trans c1
        obtain ⟨xa, xt⟩ := x
        dsimp only at k0 k1 hxi
        have CC := Lib.hid (fun w => cmp_any xa xt t w)
        rw [if_neg (fun e => by have := hxi.1 e; omega)] at CC
        clear hcell hx c0 c1 hxi
        go_wp2_with (go_at_fn 47; refine (CC.out _).mono ?_; rintro _ V ⟨rfl, hbv⟩; have HV := Lib.hid (HB.out.trans (hbv.mono HB.out.size)); clear hbv)
        go_ret2
        exact ⟨rfl, HV.out⟩
      · go_wp2_with fail
        go_ret2
        exact ⟨rfl, HB.out⟩
end Go.Proofs.YtlaplgaccjmbhaaGreatDoor.Px
namespace Go.Proofs.YtlaplgaccjmbhaaGreatDoor.Px
open Go.RowKit
open Tb

/-- how many transitions are not behind an instant, or the error -/
def idxE (x : Tab) (t : Int) : Nat × Int := if checkE x ≠ 0 then (0, 2) else if t < -36028797018963968 ∨ 36028797018963968 < t then (0, 3) else (idxT x.trans t, 0)
theorem idxE_bad {x : Tab} {t : Int} (h : checkE x ≠ 0) : idxE x t = (0, 2) := by unfold idxE; rw [if_pos h]
theorem idxE_rng {x : Tab} {t : Int} (h : checkE x = 0) (h2 : t < -36028797018963968 ∨ 36028797018963968 < t) : idxE x t = (0, 3) := by unfold idxE; rw [if_neg (fun q => q h), if_pos h2]
theorem idxE_ok {x : Tab} {t : Int} (h : checkE x = 0) (h2 : ¬ (t < -36028797018963968 ∨ 36028797018963968 < t)) : idxE x t = (idxT x.trans t, 0) := by unfold idxE; rw [if_neg (fun q => q h), if_neg h2]
theorem check_zero {x : Tab} (h : checkE x = 0) : typesE x.types = 0 ∧ transE x = 0 ∧ footE x = 0 := by
  unfold checkE at h
  by_cases h1 : typesE x.types ≠ 0
  · rw [if_pos h1] at h; exact absurd h h1
  rw [if_neg h1] at h
  by_cases h2 : transE x ≠ 0
  · rw [if_pos h2] at h; exact absurd h h2
  rw [if_neg h2] at h
  exact ⟨Decidable.of_not_not h1, Decidable.of_not_not h2, h⟩
theorem foot_zero {x : Tab} (h : footE x = 0) : (finG rfF x.foot).2 = 0 := by
  unfold footE at h
  by_cases h1 : (finG rfF x.foot).2 ≠ 0
  · rw [if_pos h1] at h; exact absurd h h1
  · exact Decidable.of_not_not h1
/-- the local time at an instant -/
def lookL (x : Tab) (t : Int) : Lc × Int :=
  if (idxE x t).2 ≠ 0 then (⟨0, false, ⟨#[]⟩⟩, (idxE x t).2)
  else if (idxE x t).1 = x.trans.length then atL (finG rfF x.foot).1 t
  else if (idxE x t).1 = 0 then (x.types.getD 0 Lc.zero, 0)
  else (x.types.getD (x.trans.getD ((idxE x t).1 - 1) ⟨0, 0⟩).ty.toNat Lc.zero, 0)
theorem idx_snoc {R : List Tr} {i : Nat} {x : Tr} {t : Int} (hx : R[i]? = some x) : idxT (R.take (i + 1)) t = if x.at' ≤ t then idxT (R.take i) t + 1 else idxT (R.take i) t := by
  rw [List.take_add_one, hx]
  unfold idxT
  rw [List.filter_append]
  by_cases h : x.at' ≤ t
  · simp [h]
  · simp [h]
set_option maxHeartbeats 4000000 in
set_option maxRecDepth 100000 in
theorem index_any' (x : Tab) (tv rv : Value) (f : ByteArray) (t : Int) (W : World) (h : TabV W tv rv f x) (hE : EnvAt W) (hmax : x.trans.length ≤ 1000000000000) :
    Calls Tryz.prog 18 #[.agg #[tv, rv, .string f], .int .i64 t] W fun e w' => e = .returned (.tuple #[.int .i64 ((idxE x t).1 : Nat), .int .i64 (idxE x t).2]) ∧ Below W.heap.size W w' := by
  have K0 := Lib.hid ((Kp.start W).alloc (.cells #[tv, rv, .string f] 25))
  have CC := Lib.hid (fun w h hE => tcheck_any x tv rv f w h hE)
  have HT := Lib.hid h
  have HE := Lib.hid hE
  by_cases h1 : checkE x = 0
  case neg =>
    rw [idxE_bad h1]
    obtain ⟨E, hE2⟩ : ∃ E, checkE x = E := ⟨_, rfl⟩
    rw [hE2] at CC h1
    clear hE2 h hE
    go_enter Tryz.func18, Tryz.ntmps18
    go_wp2_with fail
    refine (CC.out _ (HT.out.keep K0.out.below) (HE.out.keep K0.out.below)).mono ?_
    rintro _ V ⟨rfl, hb⟩
    have K1 := Lib.hid (K0.out.keep hb)
    clear hb
    go_wp2_with fail
    go_ret2
    exact ⟨rfl, K1.out.below⟩
  have hi := (transGo_ok _ _ _ _ (check_zero h1).2.1).inc
  have CS := Lib.hid (fun v w h => search_any x.trans v t w h hi hmax)
  by_cases h2 : t < -36028797018963968 ∨ 36028797018963968 < t
  · rw [idxE_rng h1 h2]
    rw [h1] at CC
    clear h1 h hE hi
    go_enter Tryz.func18, Tryz.ntmps18
    go_wp2_with fail
    refine (CC.out _ (HT.out.keep K0.out.below) (HE.out.keep K0.out.below)).mono ?_
    rintro _ V ⟨rfl, hb⟩
    have K1 := Lib.hid (K0.out.keep hb)
    clear hb
    go_wp2_with fail
    all_goals
      go_ret2
      exact ⟨rfl, K1.out.below⟩
  rw [idxE_ok h1 h2]
  rw [h1] at CC
  have r0 : ¬ t < -36028797018963968 := by omega
  have r1 : ¬ 36028797018963968 < t := by omega
  obtain ⟨I, hI⟩ : ∃ I, idxT x.trans t = I := ⟨_, rfl⟩
  rw [hI] at CS
  rw [hI]
  clear h1 h hE hi h2 hI hmax
  go_enter Tryz.func18, Tryz.ntmps18
  go_wp2_with fail
  refine (CC.out _ (HT.out.keep K0.out.below) (HE.out.keep K0.out.below)).mono ?_
  rintro _ V ⟨rfl, hb⟩
  have K1 := Lib.hid (K0.out.keep hb)
  obtain ⟨⟨m0, m1, m2⟩, _, _, _⟩ := row3 (K1.out.at 0 rfl)
  have z0 := K1.out.lt 0 rfl
  clear hb
  go_wp2_with fail
  refine (CS.out _ _ (HT.out.trans.keep K1.out.below)).mono ?_
  rintro _ V2 ⟨rfl, hb⟩
  have K2 := Lib.hid (K1.out.keep hb)
  clear hb
  go_wp2_with fail
  go_ret2
  exact ⟨rfl, K2.out.below⟩
set_option maxHeartbeats 4000000 in
set_option maxRecDepth 100000 in
theorem rindex_any (x : Tab) (tv rv : Value) (f : ByteArray) (t : Int) (W : World) (h : TabV W tv rv f x) :
    Calls Tryz.prog 19 #[.agg #[tv, rv, .string f], .int .i64 t] W fun e w' => e = .returned (.tuple #[.int .i64 ((idxE x t).1 : Nat), .int .i64 (idxE x t).2]) ∧ Below W.heap.size W w' := by
  obtain ⟨ra, rc, hrv, hr1, hr2⟩ := h.trans.slice
  have hall := fun h0 => h.trans.all h0
  obtain ⟨N, hN⟩ : ∃ n, x.trans.length = n := ⟨_, rfl⟩
  rw [hN] at hrv hr1 hall
  subst hrv
  unfold maxLen at hr2
  have HN := Lib.hid hN
  have HA := Lib.hid hall
  have K0 := Lib.hid ((Kp.start W).alloc (.cells #[tv, .slice ra N rc, .string f] 25))
  have CC := Lib.hid (fun w h => rcheck_any x tv (.slice ra N rc) f w h)
  have HT := Lib.hid h
  clear hN hall
  by_cases h1 : checkE x = 0
  case neg =>
    rw [idxE_bad h1]
    obtain ⟨E, hE2⟩ : ∃ E, checkE x = E := ⟨_, rfl⟩
    rw [hE2] at CC h1
    clear hE2 h
    go_enter Tryz.func19, Tryz.ntmps19
    go_wp2_with fail
    refine (CC.out _ (HT.out.keep K0.out.below)).mono ?_
    rintro _ V ⟨rfl, hb⟩
    have K1 := Lib.hid (K0.out.keep hb)
    clear hb
    go_wp2_with fail
    go_ret2
    exact ⟨rfl, K1.out.below⟩
  by_cases h2 : t < -36028797018963968 ∨ 36028797018963968 < t
  · rw [idxE_rng h1 h2]
    rw [h1] at CC
    clear h1 h
    go_enter Tryz.func19, Tryz.ntmps19
    go_wp2_with fail
    refine (CC.out _ (HT.out.keep K0.out.below)).mono ?_
    rintro _ V ⟨rfl, hb⟩
    have K1 := Lib.hid (K0.out.keep hb)
    clear hb
    go_wp2_with fail
    all_goals
      go_ret2
      exact ⟨rfl, K1.out.below⟩
  rw [idxE_ok h1 h2]
  rw [h1] at CC
  have r0 : ¬ t < -36028797018963968 := by omega
  have r1 : ¬ 36028797018963968 < t := by omega
  obtain ⟨R, hR⟩ : ∃ R, x.trans = R := ⟨_, rfl⟩
  rw [hR] at HN HA
  rw [hR]
  clear h1 h h2 hR
  go_enter Tryz.func19, Tryz.ntmps19
  go_wp2_with fail
  refine (CC.out _ (HT.out.keep K0.out.below)).mono ?_
  rintro _ V ⟨rfl, hb⟩
  have K1 := Lib.hid (K0.out.keep hb)
  clear hb
  go_wp2_with fail
  go_loopw [6, 7] (fun n6 i7 wr => ∃ i m : Nat, i ≤ N ∧ i7 = .int .i64 i ∧ n6 = .int .i64 m ∧ m = idxT (R.take i) t ∧ m ≤ i ∧ Kp [(W.heap.size, .cells #[tv, .slice ra N rc, .string f] 25)] [] W wr) (fun _ i7 _ => N - (intOf i7).toNat)
  case atStart => exact ⟨0, 0, by omega, rfl, rfl, rfl, by omega, K1.out⟩
  case round =>
    obtain ⟨i, m, hi, rfl, rfl, hm, hmi, hK⟩ := hrel
    have HK := Lib.hid hK
    have HM := Lib.hid hm
    clear hK hm
    obtain ⟨⟨m0, m1, m2⟩, _, _, _⟩ := row3 (HK.out.at 0 rfl)
    by_cases hlt : i < N
    · obtain ⟨b, o, c, e1, _, _, hb, hcell⟩ := HA.out (by omega)
      simp only [Value.slice.injEq] at e1
      obtain ⟨rfl, _, rfl⟩ := e1
      obtain ⟨y, hy⟩ : ∃ y, R[i]? = some y := ⟨_, List.getElem?_eq_getElem (by have := HN.out; omega)⟩
      obtain ⟨c0, c1⟩ := hcell i y hy
      have k0 := (HK.out.below.cell (p := ⟨b, o + i * 2, none⟩) hb).trans c0
      have HS := Lib.hid (idx_snoc (t := t) hy)
      obtain ⟨ya, yt⟩ := y
      dsimp only at k0 HS
      clear hcell hy c0 c1
      by_cases hc : ya ≤ t
      · rw [if_pos hc] at HS
        go_wp2_with fail
        go_roundw
        case rel => exact ⟨i + 1, m + 1, by omega, by go_num, by go_num, by rw [HS.out, HM.out], by omega, HK.out⟩
        case measure => simp [intOf]; omega
      · rw [if_neg hc] at HS
        go_wp2_with fail
        go_roundw
        case rel => exact ⟨i + 1, m, by omega, by go_num, rfl, by rw [HS.out, HM.out], by omega, HK.out⟩
        case measure => simp [intOf]; omega
    · obtain rfl : N = i := by omega
      have HX := Lib.hid (show m = idxT R t by have := HM.out; rw [List.take_of_length_le (by have := HN.out; omega)] at this; exact this)
      go_wp2_with fail
      go_ret2
      exact ⟨by rw [← HX.out]; rfl, HK.out.below⟩
end Go.Proofs.YtlaplgaccjmbhaaGreatDoor.Px
namespace Go.Proofs.YtlaplgaccjmbhaaGreatDoor.Px
open Go.RowKit
open Tb

theorem look_err {x : Tab} {t : Int} (h : (idxE x t).2 ≠ 0) : lookL x t = (⟨0, false, ⟨#[]⟩⟩, (idxE x t).2) := by unfold lookL; rw [if_pos h]
theorem look_last {x : Tab} {t : Int} (h : (idxE x t).2 = 0) (h2 : (idxE x t).1 = x.trans.length) : lookL x t = atL (finG rfF x.foot).1 t := by unfold lookL; rw [if_neg (fun q => q h), if_pos h2]
theorem look_first {x : Tab} {t : Int} (h : (idxE x t).2 = 0) (h2 : ¬ (idxE x t).1 = x.trans.length) (h3 : (idxE x t).1 = 0) : lookL x t = (x.types.getD 0 Lc.zero, 0) := by unfold lookL; rw [if_neg (fun q => q h), if_neg h2, if_pos h3]
theorem look_mid {x : Tab} {t : Int} {m k : Nat} {y : Lc} {a : Int} (h : (idxE x t).2 = 0) (h2 : ¬ (idxE x t).1 = x.trans.length) (h3 : (idxE x t).1 = m + 1) (hm : x.trans[m]? = some ⟨a, (k : Int)⟩) (hy : x.types[k]? = some y) : lookL x t = (y, 0) := by
  unfold lookL
  rw [if_neg (fun q => q h), if_neg h2, h3, if_neg (by omega), Nat.add_sub_cancel]
  rw [show x.trans.getD m ⟨0, 0⟩ = ⟨a, (k : Int)⟩ by simp [List.getD, hm]]
  rw [show x.types.getD (k : Int).toNat Lc.zero = y by rw [Int.toNat_natCast]; simp [List.getD, hy]]
theorem idxE_zero {x : Tab} {t : Int} (h : (idxE x t).2 = 0) : checkE x = 0 ∧ (idxE x t).1 = idxT x.trans t := by
  unfold idxE at h ⊢
  by_cases h1 : checkE x ≠ 0
  · rw [if_pos h1] at h; cases h
  rw [if_neg h1] at h ⊢
  by_cases h2 : t < -36028797018963968 ∨ 36028797018963968 < t
  · rw [if_pos h2] at h; cases h
  rw [if_neg h2]
  exact ⟨Decidable.of_not_not h1, rfl⟩
/-- which transitions and types a right table has -/
theorem right_mid {x : Tab} (h : checkE x = 0) {m : Nat} (hm : m < x.trans.length) : ∃ (a : Int) (k : Nat) (y : Lc), x.trans[m]? = some ⟨a, (k : Int)⟩ ∧ x.types[k]? = some y := by
  have ht := (transGo_ok _ _ _ _ (check_zero h).2.1).ty x.trans[m] (List.getElem_mem hm)
  obtain ⟨k, hk⟩ : ∃ k : Nat, x.trans[m].ty = (k : Int) := ⟨x.trans[m].ty.toNat, by omega⟩
  have hlt : k < x.types.length := by omega
  exact ⟨x.trans[m].at', k, x.types[k], by rw [List.getElem?_eq_getElem hm, ← hk], List.getElem?_eq_getElem hlt⟩
set_option maxHeartbeats 4000000 in
set_option maxRecDepth 100000 in
theorem look_any (x : Tab) (tv rv : Value) (f : ByteArray) (t : Int) (W : World) (h : TabV W tv rv f x) (hE : EnvAt W) (hmax : x.trans.length ≤ 1000000000000) :
    Calls Tryz.prog 16 #[.agg #[tv, rv, .string f], .int .i64 t] W fun e w' => e = .returned (.tuple #[(lookL x t).1.val, .int .i64 (lookL x t).2]) ∧ Below W.heap.size W w' := by
  obtain ⟨ta, tc, htv, t1, t2⟩ := h.types.slice
  obtain ⟨ra, rc, hrv, r1, r2⟩ := h.trans.slice
  have hL1 := fun h0 => h.types.all h0
  have hR1 := fun h0 => h.trans.all h0
  obtain ⟨n, hn⟩ : ∃ n, x.types.length = n := ⟨_, rfl⟩
  obtain ⟨N, hN⟩ : ∃ n, x.trans.length = n := ⟨_, rfl⟩
  rw [hn] at htv t1 hL1
  rw [hN] at hrv r1 hR1 hmax
  subst htv hrv
  unfold maxLen at t2 r2
  have hf := h.foot
  have HL1 := Lib.hid hL1
  have HR1 := Lib.hid hR1
  have HT := Lib.hid h
  have HE := Lib.hid hE
  have CI := Lib.hid (fun w h hE => index_any' x (.slice ta n tc) (.slice ra N rc) f t w h hE (by rw [hN]; exact hmax))
  have K0 := Lib.hid (((Kp.start W).alloc (.cells #[.slice ta n tc, .slice ra N rc, .string f] 25)).allocAt (W.heap.size + 1) (by simp) (.cells #[.int .i64 0, .bool false, .string ⟨#[]⟩] 28))
  have hle := idx_le x.trans t
  rw [hN] at hle
  clear h hL1 hR1 hE
  by_cases h1 : (idxE x t).2 = 0
  case neg =>
    rw [look_err h1]
    obtain ⟨E, hE2⟩ : ∃ E, (idxE x t).2 = E := ⟨_, rfl⟩
    obtain ⟨I, hI⟩ : ∃ I, (idxE x t).1 = I := ⟨_, rfl⟩
    rw [hE2, hI] at CI
    rw [hE2] at h1 ⊢
    unfold Lc.val
    dsimp only
    clear hE2 hI hN hn hf hmax
    go_enter Tryz.func16, Tryz.ntmps16
    go_wp2_with fail
    refine (CI.out _ (HT.out.keep K0.out.below) (HE.out.keep K0.out.below)).mono ?_
    rintro _ V ⟨rfl, hb⟩
    have K1 := Lib.hid (K0.out.keep hb)
    obtain ⟨⟨r0, r1, r2⟩, s0, s1, s2⟩ := row3 (K1.out.at 0 rfl)
    obtain ⟨⟨m0, m1, m2⟩, _, _, _⟩ := row3 (K1.out.at 1 rfl)
    have z0 := K1.out.lt 0 rfl
    have z1 := K1.out.lt 1 rfl
    clear hb
    go_wp2_with fail
    refine bodyPost_ret (v := .tuple #[.agg #[.int .i64 0, .bool false, .string ⟨#[]⟩], .int .i64 E]) (by simp [results, Tryz.results16, go_sem, r0, r1, r2]) rfl ⟨rfl, ?_⟩
    exact (((K1.out.set 0 rfl 0 _ rfl).set 0 rfl 1 _ rfl).set 0 rfl 2 _ rfl).below
  obtain ⟨hck, hI0⟩ := idxE_zero h1
  obtain ⟨hty, htr, hft⟩ := check_zero hck
  rw [← hI0] at hle
  rw [h1] at CI
  by_cases h2 : (idxE x t).1 = N
  · rw [look_last h1 (by rw [hN]; exact h2)]
    rw [h2] at CI
    have CP := Lib.hid (fun w hE => parse_any x.foot w hE)
    rw [← hf, fin_two, foot_zero hft] at CP
    have hsz := fin_size rfF x.foot
    obtain ⟨P, hP⟩ : ∃ P, (finG rfF x.foot).1 = P := ⟨_, rfl⟩
    rw [hP] at CP hsz
    rw [hP]
    have CA := Lib.hid (fun w hE => atL_any P t hsz.1 hsz.2 w hE)
    obtain ⟨A, hA⟩ : ∃ A, atL P t = A := ⟨_, rfl⟩
    rw [hA] at CA
    rw [hA]
    obtain ⟨a, q, d, g, ⟨e1, e2, e3, e4, e5⟩, ⟨g1, g2, g3, g4, g5⟩⟩ := P
    unfold Pos.val at CP CA
    obtain ⟨⟨lo, ld, la⟩, ee⟩ := A
    unfold Lc.val at CA
    unfold Lc.val
    dsimp only at CP CA ⊢
    clear h1 h2 hI0 hle hck hty htr hft hP hA hsz hN hn hf hmax
    go_enter Tryz.func16, Tryz.ntmps16
    go_wp2_with fail
    refine (CI.out _ (HT.out.keep K0.out.below) (HE.out.keep K0.out.below)).mono ?_
    rintro _ V ⟨rfl, hb⟩
    have K1 := Lib.hid (K0.out.keep hb)
    obtain ⟨⟨r0, r1, r2⟩, s0, s1, s2⟩ := row3 (K1.out.at 0 rfl)
    obtain ⟨⟨m0, m1, m2⟩, _, _, _⟩ := row3 (K1.out.at 1 rfl)
    have z0 := K1.out.lt 0 rfl
    have z1 := K1.out.lt 1 rfl
    clear hb
    go_wp2_with fail
    refine (CP.out _ (HE.out.keep K1.out.below)).mono ?_
    rintro _ V2 ⟨rfl, hb⟩
    have K2 := Lib.hid (K1.out.keep hb)
    have K3 := Lib.hid (K2.out.alloc (.cells #[.string a, .int .i64 q, .string d, .int .i64 g, .int .i64 e1, .int .i64 e2, .int .i64 e3, .int .i64 e4, .int .i64 e5, .int .i64 g1, .int .i64 g2, .int .i64 g3, .int .i64 g4, .int .i64 g5] 50))
    clear hb r0 r1 r2 s0 s1 s2 m0 m1 m2 z0 z1
    go_wp2_with fail
    refine (CA.out _ (HE.out.keep K3.out.below)).mono ?_
    rintro _ V3 ⟨rfl, hb⟩
    have K4 := Lib.hid (K3.out.keep hb)
    obtain ⟨⟨r0, r1, r2⟩, s0, s1, s2⟩ := row3 (K4.out.at 1 rfl)
    have z0 := K4.out.lt 1 rfl
    clear hb
    go_wp2_with fail
    refine bodyPost_ret (v := .tuple #[.agg #[.int .i64 lo, .bool ld, .string la], .int .i64 ee]) (by simp [results, Tryz.results16, go_sem, r0, r1, r2]) rfl ⟨rfl, ?_⟩
    exact (((K4.out.set 1 rfl 0 _ rfl).set 1 rfl 1 _ rfl).set 1 rfl 2 _ rfl).below
  by_cases h3 : (idxE x t).1 = 0
  · obtain ⟨b, o, c, e1, _, _, hb, hcell⟩ := HL1.out (by have := List.length_pos_iff.2 (typesE_zero hty).1; omega)
    simp only [Value.slice.injEq] at e1
    obtain ⟨rfl, _, rfl⟩ := e1
    have hn0 : 0 < n := by have := List.length_pos_iff.2 (typesE_zero hty).1; omega
    have hn1 : (0 : Int) < (n : Int) := by omega
    obtain ⟨y, hy⟩ : ∃ y, x.types[0]? = some y := ⟨_, List.getElem?_eq_getElem (by omega)⟩
    rw [look_first h1 (by rw [hN]; exact h2) h3, show x.types.getD 0 Lc.zero = y by simp [List.getD, hy]]
    rw [h3] at CI
    have hz : ¬ (0 : Int) = (N : Int) := by omega
    obtain ⟨c0, c1, c2⟩ := hcell 0 y hy
    simp only [Nat.zero_mul, Nat.add_zero] at c0 c1 c2
    obtain ⟨lo, ld, la⟩ := y
    unfold Lc.val
    dsimp only at c0 c1 c2 ⊢
    have C0 := Lib.hid c0
    have C1 := Lib.hid c1
    have C2 := Lib.hid c2
    clear h1 h2 h3 hI0 hle hck hty htr hft hN hn hcell hy c0 c1 c2 hf hmax
    go_enter Tryz.func16, Tryz.ntmps16
    go_wp2_with fail
    refine (CI.out _ (HT.out.keep K0.out.below) (HE.out.keep K0.out.below)).mono ?_
    rintro _ V ⟨rfl, hb⟩
    have K1 := Lib.hid (K0.out.keep hb)
    obtain ⟨⟨r0, r1, r2⟩, s0, s1, s2⟩ := row3 (K1.out.at 0 rfl)
    obtain ⟨⟨m0, m1, m2⟩, _, _, _⟩ := row3 (K1.out.at 1 rfl)
    have z0 := K1.out.lt 0 rfl
    have z1 := K1.out.lt 1 rfl
    clear hb
    have k0 := (K1.out.below.cell (p := ⟨b, o, none⟩) hb).trans C0.out
    have k1 := (K1.out.below.cell (p := ⟨b, o + 1, none⟩) hb).trans C1.out
    have k2 := (K1.out.below.cell (p := ⟨b, o + 2, none⟩) hb).trans C2.out
    have hbw : b < V.heap.size := Nat.lt_of_lt_of_le hb K1.out.below.size
    go_wp2_with fail
    refine bodyPost_ret (v := .tuple #[.agg #[.int .i64 lo, .bool ld, .string la], .int .i64 0]) (by simp [results, Tryz.results16, go_sem, r0, r1, r2]) rfl ⟨rfl, ?_⟩
    exact (((K1.out.set 0 rfl 0 _ rfl).set 0 rfl 1 _ rfl).set 0 rfl 2 _ rfl).below
  obtain ⟨m, hm⟩ : ∃ m, (idxE x t).1 = m + 1 := ⟨(idxE x t).1 - 1, by omega⟩
  have hmN : m + 1 < N := by omega
  obtain ⟨ya, k, y, hx, hy⟩ := right_mid hck (m := m) (by omega)
  rw [look_mid h1 (by rw [hN]; exact h2) hm hx hy]
  rw [hm] at CI
  have hkn := (List.getElem?_eq_some_iff.1 hy).1
  rw [hn] at hkn
  have hz : ¬ ((m + 1 : Nat) : Int) = (N : Int) := by omega
  have hz2 : ¬ ((m + 1 : Nat) : Int) = 0 := by omega
  have hkn' : (k : Int) < (n : Int) := by omega
  have hmN' : (m : Int) < (N : Int) := by omega
  obtain ⟨b, o, c, e1, _, _, hb, hcell⟩ := HL1.out (by omega)
  simp only [Value.slice.injEq] at e1
  obtain ⟨rfl, _, rfl⟩ := e1
  obtain ⟨b', o', c', e1, _, _, hb', hcell'⟩ := HR1.out (by omega)
  simp only [Value.slice.injEq] at e1
  obtain ⟨rfl, _, rfl⟩ := e1
  obtain ⟨c0, c1, c2⟩ := hcell k y hy
  obtain ⟨_, d1⟩ := hcell' m _ hx
  obtain ⟨lo, ld, la⟩ := y
  unfold Lc.val
  dsimp only at c0 c1 c2 d1 ⊢
  have C0 := Lib.hid c0
  have C1 := Lib.hid c1
  have C2 := Lib.hid c2
  have D1 := Lib.hid d1
  clear h1 h2 h3 hI0 hle hck hty htr hft hN hn hcell hcell' hx hy c0 c1 c2 d1 hm hf hmax
  go_enter Tryz.func16, Tryz.ntmps16
  go_wp2_with fail
  refine (CI.out _ (HT.out.keep K0.out.below) (HE.out.keep K0.out.below)).mono ?_
  rintro _ V ⟨rfl, hb⟩
  have K1 := Lib.hid (K0.out.keep hb)
  obtain ⟨⟨r0, r1, r2⟩, s0, s1, s2⟩ := row3 (K1.out.at 0 rfl)
  obtain ⟨⟨m0, m1, m2⟩, _, _, _⟩ := row3 (K1.out.at 1 rfl)
  have z0 := K1.out.lt 0 rfl
  have z1 := K1.out.lt 1 rfl
  clear hb
  have k0 := (K1.out.below.cell (p := ⟨b, o + k * 3, none⟩) hb).trans C0.out
  have k1 := (K1.out.below.cell (p := ⟨b, o + k * 3 + 1, none⟩) hb).trans C1.out
  have k2 := (K1.out.below.cell (p := ⟨b, o + k * 3 + 2, none⟩) hb).trans C2.out
  have k3 := (K1.out.below.cell (p := ⟨b', o' + m * 2 + 1, none⟩) hb').trans D1.out
  have hbw : b < V.heap.size := Nat.lt_of_lt_of_le hb K1.out.below.size
  have hbw' : b' < V.heap.size := Nat.lt_of_lt_of_le hb' K1.out.below.size
  go_upto_region 11 with fail
  go_region
  all_goals
    go_wp2_with fail
    first
      | (refine bodyPost_ret (v := .tuple #[.agg #[.int .i64 lo, .bool ld, .string la], .int .i64 0]) (by simp [results, Tryz.results16, go_sem, r0, r1, r2]) rfl ⟨rfl, ?_⟩; exact ((((K1.out.set 0 rfl 0 _ rfl).set 0 rfl 1 _ rfl).set 0 rfl 2 _ rfl).drew).below)
set_option maxHeartbeats 4000000 in
set_option maxRecDepth 100000 in
theorem rlook_any (x : Tab) (tv rv : Value) (f : ByteArray) (t : Int) (W : World) (h : TabV W tv rv f x) :
    Calls Tryz.prog 17 #[.agg #[tv, rv, .string f], .int .i64 t] W fun e w' => e = .returned (.tuple #[(lookL x t).1.val, .int .i64 (lookL x t).2]) ∧ Below W.heap.size W w' := by
  obtain ⟨ta, tc, htv, t1, t2⟩ := h.types.slice
  obtain ⟨ra, rc, hrv, r1, r2⟩ := h.trans.slice
  have hL1 := fun h0 => h.types.all h0
  have hR1 := fun h0 => h.trans.all h0
  obtain ⟨n, hn⟩ : ∃ n, x.types.length = n := ⟨_, rfl⟩
  obtain ⟨N, hN⟩ : ∃ n, x.trans.length = n := ⟨_, rfl⟩
  rw [hn] at htv t1 hL1
  rw [hN] at hrv r1 hR1
  subst htv hrv
  unfold maxLen at t2 r2
  have hf := h.foot
  have HL1 := Lib.hid hL1
  have HR1 := Lib.hid hR1
  have HT := Lib.hid h
  have CI := Lib.hid (fun w h => rindex_any x (.slice ta n tc) (.slice ra N rc) f t w h)
  have K0 := Lib.hid (((Kp.start W).alloc (.cells #[.slice ta n tc, .slice ra N rc, .string f] 25)).allocAt (W.heap.size + 1) (by simp) (.cells #[.int .i64 0, .bool false, .string ⟨#[]⟩] 28))
  have hle := idx_le x.trans t
  rw [hN] at hle
  clear h hL1 hR1
  by_cases h1 : (idxE x t).2 = 0
  case neg =>
    rw [look_err h1]
    obtain ⟨E, hE2⟩ : ∃ E, (idxE x t).2 = E := ⟨_, rfl⟩
    obtain ⟨I, hI⟩ : ∃ I, (idxE x t).1 = I := ⟨_, rfl⟩
    rw [hE2, hI] at CI
    rw [hE2] at h1 ⊢
    unfold Lc.val
    dsimp only
    clear hE2 hI hN hn hf
    go_enter Tryz.func17, Tryz.ntmps17
    go_wp2_with fail
    refine (CI.out _ (HT.out.keep K0.out.below)).mono ?_
    rintro _ V ⟨rfl, hb⟩
    have K1 := Lib.hid (K0.out.keep hb)
    obtain ⟨⟨r0, r1, r2⟩, s0, s1, s2⟩ := row3 (K1.out.at 0 rfl)
    obtain ⟨⟨m0, m1, m2⟩, _, _, _⟩ := row3 (K1.out.at 1 rfl)
    have z0 := K1.out.lt 0 rfl
    have z1 := K1.out.lt 1 rfl
    clear hb
    go_wp2_with fail
    refine bodyPost_ret (v := .tuple #[.agg #[.int .i64 0, .bool false, .string ⟨#[]⟩], .int .i64 E]) (by simp [results, Tryz.results17, go_sem, r0, r1, r2]) rfl ⟨rfl, ?_⟩
    exact (((K1.out.set 0 rfl 0 _ rfl).set 0 rfl 1 _ rfl).set 0 rfl 2 _ rfl).below
  obtain ⟨hck, hI0⟩ := idxE_zero h1
  obtain ⟨hty, htr, hft⟩ := check_zero hck
  rw [← hI0] at hle
  rw [h1] at CI
  by_cases h2 : (idxE x t).1 = N
  · rw [look_last h1 (by rw [hN]; exact h2)]
    rw [h2] at CI
    have CP := Lib.hid (fun w => ref_parse_any x.foot w)
    rw [← hf, foot_zero hft] at CP
    have hsz := fin_size rfF x.foot
    obtain ⟨P, hP⟩ : ∃ P, (finG rfF x.foot).1 = P := ⟨_, rfl⟩
    rw [hP] at CP hsz
    rw [hP]
    have CA := Lib.hid (fun w => ratL_any P t hsz.1 hsz.2 w)
    obtain ⟨A, hA⟩ : ∃ A, atL P t = A := ⟨_, rfl⟩
    rw [hA] at CA
    rw [hA]
    obtain ⟨a, q, d, g, ⟨e1, e2, e3, e4, e5⟩, ⟨g1, g2, g3, g4, g5⟩⟩ := P
    unfold Pos.val at CP CA
    obtain ⟨⟨lo, ld, la⟩, ee⟩ := A
    unfold Lc.val at CA
    unfold Lc.val
    dsimp only at CP CA ⊢
    clear h1 h2 hI0 hle hck hty htr hft hP hA hsz hN hn hf
    go_enter Tryz.func17, Tryz.ntmps17
    go_wp2_with fail
    refine (CI.out _ (HT.out.keep K0.out.below)).mono ?_
    rintro _ V ⟨rfl, hb⟩
    have K1 := Lib.hid (K0.out.keep hb)
    obtain ⟨⟨r0, r1, r2⟩, s0, s1, s2⟩ := row3 (K1.out.at 0 rfl)
    obtain ⟨⟨m0, m1, m2⟩, _, _, _⟩ := row3 (K1.out.at 1 rfl)
    have z0 := K1.out.lt 0 rfl
    have z1 := K1.out.lt 1 rfl
    clear hb
    go_wp2_with fail
    refine (CP.out _).mono ?_
    rintro _ V2 ⟨rfl, hb⟩
    have K2 := Lib.hid (K1.out.keep hb)
    have K3 := Lib.hid (K2.out.alloc (.cells #[.string a, .int .i64 q, .string d, .int .i64 g, .int .i64 e1, .int .i64 e2, .int .i64 e3, .int .i64 e4, .int .i64 e5, .int .i64 g1, .int .i64 g2, .int .i64 g3, .int .i64 g4, .int .i64 g5] 50))
    clear hb r0 r1 r2 s0 s1 s2 m0 m1 m2 z0 z1
    go_wp2_with fail
    refine (CA.out _).mono ?_
    rintro _ V3 ⟨rfl, hb⟩
    have K4 := Lib.hid (K3.out.keep hb)
    obtain ⟨⟨r0, r1, r2⟩, s0, s1, s2⟩ := row3 (K4.out.at 1 rfl)
    have z0 := K4.out.lt 1 rfl
    clear hb
    go_wp2_with fail
    refine bodyPost_ret (v := .tuple #[.agg #[.int .i64 lo, .bool ld, .string la], .int .i64 ee]) (by simp [results, Tryz.results17, go_sem, r0, r1, r2]) rfl ⟨rfl, ?_⟩
    exact (((K4.out.set 1 rfl 0 _ rfl).set 1 rfl 1 _ rfl).set 1 rfl 2 _ rfl).below
  by_cases h3 : (idxE x t).1 = 0
  · obtain ⟨b, o, c, e1, _, _, hb, hcell⟩ := HL1.out (by have := List.length_pos_iff.2 (typesE_zero hty).1; omega)
    simp only [Value.slice.injEq] at e1
    obtain ⟨rfl, _, rfl⟩ := e1
    have hn0 : 0 < n := by have := List.length_pos_iff.2 (typesE_zero hty).1; omega
    have hn1 : (0 : Int) < (n : Int) := by omega
    obtain ⟨y, hy⟩ : ∃ y, x.types[0]? = some y := ⟨_, List.getElem?_eq_getElem (by omega)⟩
    rw [look_first h1 (by rw [hN]; exact h2) h3, show x.types.getD 0 Lc.zero = y by simp [List.getD, hy]]
    rw [h3] at CI
    have hz : ¬ (0 : Int) = (N : Int) := by omega
    obtain ⟨c0, c1, c2⟩ := hcell 0 y hy
    simp only [Nat.zero_mul, Nat.add_zero] at c0 c1 c2
    obtain ⟨lo, ld, la⟩ := y
    unfold Lc.val
    dsimp only at c0 c1 c2 ⊢
    have C0 := Lib.hid c0
    have C1 := Lib.hid c1
    have C2 := Lib.hid c2
    clear h1 h2 h3 hI0 hle hck hty htr hft hN hn hcell hy c0 c1 c2 hf
    go_enter Tryz.func17, Tryz.ntmps17
    go_wp2_with fail
    refine (CI.out _ (HT.out.keep K0.out.below)).mono ?_
    rintro _ V ⟨rfl, hb⟩
    have K1 := Lib.hid (K0.out.keep hb)
    obtain ⟨⟨r0, r1, r2⟩, s0, s1, s2⟩ := row3 (K1.out.at 0 rfl)
    obtain ⟨⟨m0, m1, m2⟩, _, _, _⟩ := row3 (K1.out.at 1 rfl)
    have z0 := K1.out.lt 0 rfl
    have z1 := K1.out.lt 1 rfl
    clear hb
    have k0 := (K1.out.below.cell (p := ⟨b, o, none⟩) hb).trans C0.out
    have k1 := (K1.out.below.cell (p := ⟨b, o + 1, none⟩) hb).trans C1.out
    have k2 := (K1.out.below.cell (p := ⟨b, o + 2, none⟩) hb).trans C2.out
    have hbw : b < V.heap.size := Nat.lt_of_lt_of_le hb K1.out.below.size
    go_wp2_with fail
    refine bodyPost_ret (v := .tuple #[.agg #[.int .i64 lo, .bool ld, .string la], .int .i64 0]) (by simp [results, Tryz.results17, go_sem, r0, r1, r2]) rfl ⟨rfl, ?_⟩
    exact (((K1.out.set 0 rfl 0 _ rfl).set 0 rfl 1 _ rfl).set 0 rfl 2 _ rfl).below
  obtain ⟨m, hm⟩ : ∃ m, (idxE x t).1 = m + 1 := ⟨(idxE x t).1 - 1, by omega⟩
  have hmN : m + 1 < N := by omega
  obtain ⟨ya, k, y, hx, hy⟩ := right_mid hck (m := m) (by omega)
  rw [look_mid h1 (by rw [hN]; exact h2) hm hx hy]
  rw [hm] at CI
  have hkn := (List.getElem?_eq_some_iff.1 hy).1
  rw [hn] at hkn
  have hz : ¬ ((m + 1 : Nat) : Int) = (N : Int) := by omega
  have hz2 : ¬ ((m + 1 : Nat) : Int) = 0 := by omega
  have hkn' : (k : Int) < (n : Int) := by omega
  have hmN' : (m : Int) < (N : Int) := by omega
  obtain ⟨b, o, c, e1, _, _, hb, hcell⟩ := HL1.out (by omega)
  simp only [Value.slice.injEq] at e1
  obtain ⟨rfl, _, rfl⟩ := e1
  obtain ⟨b', o', c', e1, _, _, hb', hcell'⟩ := HR1.out (by omega)
  simp only [Value.slice.injEq] at e1
  obtain ⟨rfl, _, rfl⟩ := e1
  obtain ⟨c0, c1, c2⟩ := hcell k y hy
  obtain ⟨_, d1⟩ := hcell' m _ hx
  obtain ⟨lo, ld, la⟩ := y
  unfold Lc.val
  dsimp only at c0 c1 c2 d1 ⊢
  have C0 := Lib.hid c0
  have C1 := Lib.hid c1
  have C2 := Lib.hid c2
  have D1 := Lib.hid d1
  clear h1 h2 h3 hI0 hle hck hty htr hft hN hn hcell hcell' hx hy c0 c1 c2 d1 hm hf
  go_enter Tryz.func17, Tryz.ntmps17
  go_wp2_with fail
  refine (CI.out _ (HT.out.keep K0.out.below)).mono ?_
  rintro _ V ⟨rfl, hb⟩
  have K1 := Lib.hid (K0.out.keep hb)
  obtain ⟨⟨r0, r1, r2⟩, s0, s1, s2⟩ := row3 (K1.out.at 0 rfl)
  obtain ⟨⟨m0, m1, m2⟩, _, _, _⟩ := row3 (K1.out.at 1 rfl)
  have z0 := K1.out.lt 0 rfl
  have z1 := K1.out.lt 1 rfl
  clear hb
  have k0 := (K1.out.below.cell (p := ⟨b, o + k * 3, none⟩) hb).trans C0.out
  have k1 := (K1.out.below.cell (p := ⟨b, o + k * 3 + 1, none⟩) hb).trans C1.out
  have k2 := (K1.out.below.cell (p := ⟨b, o + k * 3 + 2, none⟩) hb).trans C2.out
  have k3 := (K1.out.below.cell (p := ⟨b', o' + m * 2 + 1, none⟩) hb').trans D1.out
  have hbw : b < V.heap.size := Nat.lt_of_lt_of_le hb K1.out.below.size
  have hbw' : b' < V.heap.size := Nat.lt_of_lt_of_le hb' K1.out.below.size
  go_upto_region 9 with fail
  go_region
  all_goals
    go_wp2_with fail
    first
      | (refine bodyPost_ret (v := .tuple #[.agg #[.int .i64 lo, .bool ld, .string la], .int .i64 0]) (by simp [results, Tryz.results17, go_sem, r0, r1, r2]) rfl ⟨rfl, ?_⟩; exact ((((K1.out.set 0 rfl 0 _ rfl).set 0 rfl 1 _ rfl).set 0 rfl 2 _ rfl).drew).below)
end Go.Proofs.YtlaplgaccjmbhaaGreatDoor.Px
namespace Go.Proofs.YtlaplgaccjmbhaaGreatDoor.Px
open Go.RowKit
open Tb

def exF : List UInt8 := [67, 69, 84, 45, 49, 67, 69, 83, 84, 44, 77, 51, 46, 53, 46, 48, 44, 77, 49, 48, 46, 53, 46, 48, 47, 51]
def exT : Tab := ⟨[⟨1000, false, bs [76, 77, 84]⟩, ⟨3600, false, bs [67, 69, 84]⟩, ⟨7200, true, bs [67, 69, 83, 84]⟩], [⟨0, 1⟩, ⟨100, 2⟩, ⟨200, 1⟩], exF⟩
def ex9 : List (Int × Nat × Nat) := [(-36028797018963968, 0, 0), (-1, 0, 0), (0, 1, 1), (99, 1, 1), (100, 2, 2), (150, 2, 2), (200, 3, 1), (1711846800, 3, 2), (1711846799, 3, 1)]
theorem ex_right : checkE exT = 0 := by kernel_rfl
theorem ex_all : ex9.all (fun c => decide (idxE exT c.1 = (c.2.1, 0)) && decide (lookL exT c.1 = (exT.types.getD c.2.2 Lc.zero, 0))) = true := by kernel_rfl
theorem ex_last : idxE exT 36028797018963968 = (3, 0) := by kernel_rfl
theorem ex_far : (lookL exT 36028797018963969).2 = 3 := by kernel_rfl
theorem ex_bad : (lookL ⟨exT.types, exT.trans, [67, 69, 84]⟩ 0).2 = 2 := by kernel_rfl
def exC1 : Array Value := #[.int .i64 1000, .bool false, .string ⟨#[76, 77, 84]⟩, .int .i64 3600, .bool false, .string ⟨#[67, 69, 84]⟩, .int .i64 7200, .bool true, .string ⟨#[67, 69, 83, 84]⟩]
def exC2 : Array Value := #[.int .i64 0, .int .i64 1, .int .i64 100, .int .i64 2, .int .i64 200, .int .i64 1]
def exX (f : List UInt8) (n : Nat) : Array Value := #[.slice (some ⟨n + 1, 0, none⟩) 3 3, .slice (some ⟨n + 2, 0, none⟩) 3 3, .string (bs f)]
theorem ex_any (W : World) : Calls Tryz.prog 43 #[] W fun e w' =>
    e = .returned (.agg (exX exF W.heap.size)) ∧ Kp [(W.heap.size + 2, .cells exC2 59 (0, 0)), (W.heap.size + 1, .cells exC1 28 (0, 0)), (W.heap.size, .cells (exX exF W.heap.size) 25 (0, 0))] [] W w' := by
  have K0 := Lib.hid ((((Kp.start W).alloc (.cells (exX exF W.heap.size) 25)).allocAt (W.heap.size + 1) (by simp) (.cells exC1 28)).allocAt (W.heap.size + 2) (by simp) (.cells exC2 59))
  go_enter Tryz.func43, Tryz.ntmps43
  go_wp2_with fail
  refine bodyPost_ret (v := .agg (exX exF W.heap.size)) (by simp [results, Tryz.results43, go_sem, exX]; rfl) rfl ⟨rfl, ?_⟩
  exact K0.out
/-- the table of the example in memory, with some footer -/
theorem ex_tab {n : Nat} {X : World} (h1 : X.heap[n + 1]? = some (.cells exC1 28 (0, 0))) (h2 : X.heap[n + 2]? = some (.cells exC2 59 (0, 0))) (f : List UInt8) :
    TabV X (.slice (some ⟨n + 1, 0, none⟩) 3 3) (.slice (some ⟨n + 2, 0, none⟩) 3 3) (bs f) ⟨exT.types, exT.trans, f⟩ :=
  ⟨SlV.of_block h1 (sz := 3) (n := 3) (c := 3) (by omega) (by unfold maxLen; omega) (by decide), SlV.of_block h2 (sz := 2) (n := 3) (c := 3) (by omega) (by unfold maxLen; omega) (by decide), rfl,
   (by intro l hl; have : l = ⟨1000, false, bs [76, 77, 84]⟩ ∨ l = ⟨3600, false, bs [67, 69, 84]⟩ ∨ l = ⟨7200, true, bs [67, 69, 83, 84]⟩ := by simpa [exT] using hl
       rcases this with rfl | rfl | rfl <;> exact ⟨by decide, by decide⟩),
   (by intro l hl; have : l = ⟨0, 1⟩ ∨ l = ⟨100, 2⟩ ∨ l = ⟨200, 1⟩ := by simpa [exT] using hl
       rcases this with rfl | rfl | rfl <;> exact ⟨by decide, by decide⟩)⟩
def exC9 : Array Value := #[.int .i64 (-36028797018963968), .int .i64 0, .int .i64 0, .int .i64 (-1), .int .i64 0, .int .i64 0, .int .i64 0, .int .i64 1, .int .i64 1, .int .i64 99, .int .i64 1, .int .i64 1, .int .i64 100, .int .i64 2, .int .i64 2, .int .i64 150, .int .i64 2, .int .i64 2, .int .i64 200, .int .i64 3, .int .i64 1, .int .i64 1711846800, .int .i64 3, .int .i64 2, .int .i64 1711846799, .int .i64 3, .int .i64 1]
/-- one of the examples -/
theorem ex_row {b : Nat} {X : World} {T : TypeId} (h : X.heap[b]? = some (.cells exC9 T (0, 0))) {k : Nat} (hk : k < 9) : ∃ (t : Int) (n c : Nat), X.cell? ⟨b, k * 3, none⟩ = some (.int .i64 t) ∧ X.cell? ⟨b, k * 3 + 1, none⟩ = some (.int .i64 n) ∧ X.cell? ⟨b, k * 3 + 2, none⟩ = some (.int .i64 c) ∧
    -9223372036854775808 ≤ t ∧ t ≤ 9223372036854775807 ∧ c < 3 ∧ n ≤ 3 ∧ idxE exT t = (n, 0) ∧ lookL exT t = (exT.types.getD c Lc.zero, 0) := by
  have key : ∀ (k : Nat) (t : Int) (n c : Nat), ex9[k]? = some (t, n, c) → idxE exT t = (n, 0) ∧ lookL exT t = (exT.types.getD c Lc.zero, 0) := by
    intro k t n c hm
    have := List.all_eq_true.1 ex_all _ (List.mem_of_getElem? hm)
    simpa using this
  rcases (show k = 0 ∨ k = 1 ∨ k = 2 ∨ k = 3 ∨ k = 4 ∨ k = 5 ∨ k = 6 ∨ k = 7 ∨ k = 8 by omega) with rfl | rfl | rfl | rfl | rfl | rfl | rfl | rfl | rfl
  · exact ⟨-36028797018963968, 0, 0, cells_at h _, cells_at h _, cells_at h _, by omega, by omega, by omega, by omega, key 0 _ _ _ rfl⟩
  · exact ⟨-1, 0, 0, cells_at h _, cells_at h _, cells_at h _, by omega, by omega, by omega, by omega, key 1 _ _ _ rfl⟩
  · exact ⟨0, 1, 1, cells_at h _, cells_at h _, cells_at h _, by omega, by omega, by omega, by omega, key 2 _ _ _ rfl⟩
  · exact ⟨99, 1, 1, cells_at h _, cells_at h _, cells_at h _, by omega, by omega, by omega, by omega, key 3 _ _ _ rfl⟩
  · exact ⟨100, 2, 2, cells_at h _, cells_at h _, cells_at h _, by omega, by omega, by omega, by omega, key 4 _ _ _ rfl⟩
  · exact ⟨150, 2, 2, cells_at h _, cells_at h _, cells_at h _, by omega, by omega, by omega, by omega, key 5 _ _ _ rfl⟩
  · exact ⟨200, 3, 1, cells_at h _, cells_at h _, cells_at h _, by omega, by omega, by omega, by omega, key 6 _ _ _ rfl⟩
  · exact ⟨1711846800, 3, 2, cells_at h _, cells_at h _, cells_at h _, by omega, by omega, by omega, by omega, key 7 _ _ _ rfl⟩
  · exact ⟨1711846799, 3, 1, cells_at h _, cells_at h _, cells_at h _, by omega, by omega, by omega, by omega, key 8 _ _ _ rfl⟩
end Go.Proofs.YtlaplgaccjmbhaaGreatDoor.Px
namespace Go.Proofs.YtlaplgaccjmbhaaGreatDoor.Px
open Go.RowKit
open Tb

theorem ex_cells {b : Nat} {X : World} (h : X.heap[b]? = some (.cells exC1 28 (0, 0))) {c : Nat} {o : Int} {d : Bool} {a : ByteArray} (hc : exT.types[c]? = some ⟨o, d, a⟩) :
    X.cell? ⟨b, c * 3, none⟩ = some (.int .i64 o) ∧ X.cell? ⟨b, c * 3 + 1, none⟩ = some (.bool d) ∧ X.cell? ⟨b, c * 3 + 2, none⟩ = some (.string a) := by
  have hS : LcV X (.slice (some ⟨b, 0, none⟩) 3 3) exT.types := SlV.of_block h (sz := 3) (n := 3) (c := 3) (by omega) (by unfold maxLen; omega) (by decide)
  obtain ⟨b', o', cc, e1, _, _, _, hcell⟩ := hS.all (by decide)
  simp only [Value.slice.injEq, Option.some.injEq, Addr.mk.injEq] at e1
  obtain ⟨⟨rfl, rfl, _⟩, _, rfl⟩ := e1
  have := hcell c _ hc
  simpa only [Nat.zero_add] using this
set_option maxHeartbeats 8000000 in
set_option maxRecDepth 100000 in
theorem works45_any (W : World) (hE : EnvAt W) : Calls Tryz.prog 15 #[] W fun e w' => e = .returned (.bool true) ∧ Below W.heap.size W w' := by
  have HE := Lib.hid hE
  have CE := Lib.hid (fun w => ex_any w)
  unfold exX at CE
  have CI := Lib.hid (fun t w h hE => index_any' exT (.slice (some ⟨W.heap.size + 1, 0, none⟩) 3 3) (.slice (some ⟨W.heap.size + 2, 0, none⟩) 3 3) (bs exF) t w h hE (by decide))
  have CA := Lib.hid (fun t w h hE => look_any exT (.slice (some ⟨W.heap.size + 1, 0, none⟩) 3 3) (.slice (some ⟨W.heap.size + 2, 0, none⟩) 3 3) (bs exF) t w h hE (by decide))
  have CB := Lib.hid (fun w h hE => look_any ⟨exT.types, exT.trans, [67, 69, 84]⟩ (.slice (some ⟨W.heap.size + 1, 0, none⟩) 3 3) (.slice (some ⟨W.heap.size + 2, 0, none⟩) 3 3) (bs [67, 69, 84]) 0 w h hE (by decide))
  obtain ⟨⟨⟨ao, ad, aa⟩, ae⟩, hA⟩ : ∃ A, lookL exT 36028797018963969 = A := ⟨_, rfl⟩
  have hae := ex_far
  rw [hA] at hae
  dsimp only at hae
  subst hae
  obtain ⟨⟨⟨bo, bd, ba⟩, be⟩, hB⟩ : ∃ A, lookL ⟨exT.types, exT.trans, [67, 69, 84]⟩ 0 = A := ⟨_, rfl⟩
  have hbe := ex_bad
  rw [hB] at hbe
  dsimp only at hbe
  subst hbe
  rw [hB] at CB
  have HA := Lib.hid hA
  unfold Lc.val at CB
  dsimp only at CB
  rw [show bs [67, 69, 84] = ⟨#[67, 69, 84]⟩ from rfl] at CB
  have HF : Hid (bs exF = ⟨#[67, 69, 84, 45, 49, 67, 69, 83, 84, 44, 77, 51, 46, 53, 46, 48, 44, 77, 49, 48, 46, 53, 46, 48, 47, 51]⟩) := Lib.hid rfl
  clear hE hA hB
  go_enter Tryz.func15, Tryz.ntmps15
  go_wp2_with fail
  refine (CE.out _).mono ?_
  rintro _ V ⟨rfl, hK⟩
  have K1 := Lib.hid hK
  clear hK
  obtain ⟨fx, hfx⟩ : ∃ f, bs exF = f := ⟨_, rfl⟩
  rw [hfx] at K1 CI CA HF ⊢
  have HFX := Lib.hid hfx
  clear hfx
  have K3 := Lib.hid ((K1.out.alloc (.cells #[.slice (some ⟨W.heap.size + 1, 0, none⟩) 3 3, .slice (some ⟨W.heap.size + 2, 0, none⟩) 3 3, .string fx] 25)).allocAt (V.heap.size + 1) (by simp) (.cells exC9 89))
  go_wp2_with fail
  go_loopw [3, 4, 5, 6, 7, 26] (fun _ _ _ _ _ i26 wr => ∃ k : Nat, k ≤ 9 ∧ i26 = .int .i64 k ∧ Kp [(V.heap.size + 1, .cells exC9 89), (V.heap.size, .cells #[.slice (some ⟨W.heap.size + 1, 0, none⟩) 3 3, .slice (some ⟨W.heap.size + 2, 0, none⟩) 3 3, .string fx] 25), (W.heap.size + 2, .cells exC2 59), (W.heap.size + 1, .cells exC1 28)] [] W wr) (fun _ _ _ _ _ i26 _ => 9 - (intOf i26).toNat)
  case atStart => exact ⟨0, by omega, rfl, K3.out.pick (by simp)⟩
  case round =>
    obtain ⟨k, hk, rfl, hK⟩ := hrel
    have HK := Lib.hid hK
    clear hK K1 K3
    by_cases hlt : k < 9
    · obtain ⟨t, n, c, q0, q1, q2, t0, t1, hc, hn, h1, h2⟩ := ex_row (HK.out.at 0 rfl) hlt
      have CI1 := CI.out t
      rw [h1] at CI1
      have CI2 := Lib.hid CI1
      have CA1 := CA.out t
      rw [h2] at CA1
      obtain ⟨y, hy⟩ : ∃ y, exT.types[c]? = some y := ⟨_, List.getElem?_eq_getElem hc⟩
      rw [show exT.types.getD c Lc.zero = y by simp [List.getD, hy]] at CA1
      have HY := Lib.hid hy
      obtain ⟨yo, yd, ya⟩ := y
      unfold Lc.val at CA1
      dsimp only at CA1
      have CA2 := Lib.hid CA1
      have TB := Lib.hid (fun (X : World) h1 h2 => (HFX.out ▸ ex_tab (X := X) (n := W.heap.size) h1 h2 exF : TabV X (.slice (some ⟨W.heap.size + 1, 0, none⟩) 3 3) (.slice (some ⟨W.heap.size + 2, 0, none⟩) 3 3) fx exT))
      clear h1 h2 hy CI1 CA1
      have KA := Lib.hid (HK.out.alloc (.cells #[.int .i64 t, .int .i64 n, .int .i64 c] 89))
      obtain ⟨⟨x0, x1, x2⟩, _, _, _⟩ := row3 (HK.out.at 1 rfl)
      have z0 := HK.out.lt 0 rfl
      have z1 := HK.out.lt 1 rfl
      go_wp2_with fail
      refine (CI2.out _ (TB.out _ (KA.out.at 4 rfl) (KA.out.at 3 rfl)) (HE.out.keep KA.out.below)).mono ?_
      rintro _ V2 ⟨rfl, hb⟩
      have KB := Lib.hid (KA.out.keep hb)
      clear hb q0 q1 q2 x0 x1 x2 z0 z1
      obtain ⟨⟨x0, x1, x2⟩, _, _, _⟩ := row3 (KB.out.at 2 rfl)
      obtain ⟨⟨y0, y1, y2⟩, _, _, _⟩ := row3 (KB.out.at 0 rfl)
      go_wp2_with fail
      refine (CA2.out _ (TB.out _ (KB.out.at 4 rfl) (KB.out.at 3 rfl)) (HE.out.keep KB.out.below)).mono ?_
      rintro _ V3 ⟨rfl, hb⟩
      have KC := Lib.hid (KB.out.keep hb)
      have KD := Lib.hid (KC.out.alloc (.cells #[.int .i64 yo, .bool yd, .string ya] 28))
      clear hb x0 x1 x2 y0 y1 y2
      obtain ⟨⟨x0, x1, x2⟩, _, _, _⟩ := row3 (KC.out.at 2 rfl)
      obtain ⟨⟨y0, y1, y2⟩, _, _, _⟩ := row3 (KC.out.at 0 rfl)
      have z0 := KC.out.lt 0 rfl
      have z1 := KC.out.lt 2 rfl
      have z2 := KC.out.lt 4 rfl
      obtain ⟨c0, c1, c2⟩ := ex_cells (KC.out.at 4 rfl) HY.out
      have hc' : (c : Int) < 3 := by omega
      go_upto_region 7 with fail
      go_quiet (fail)
      go_wp2_with fail
      go_roundw
      case rel => exact ⟨k + 1, by omega, by go_num, (KD.out.drop.drop).call (Civ.below_drewN (Below.refl _ _) _) rfl rfl rfl rfl⟩
      case measure => simp [intOf]; omega
    · obtain rfl : k = 9 := by omega
      have TB := Lib.hid (fun (X : World) h1 h2 => (HFX.out ▸ ex_tab (X := X) (n := W.heap.size) h1 h2 exF : TabV X (.slice (some ⟨W.heap.size + 1, 0, none⟩) 3 3) (.slice (some ⟨W.heap.size + 2, 0, none⟩) 3 3) fx exT))
      have TC := Lib.hid (fun (X : World) h1 h2 => (ex_tab (X := X) (n := W.heap.size) h1 h2 [67, 69, 84] : TabV X (.slice (some ⟨W.heap.size + 1, 0, none⟩) 3 3) (.slice (some ⟨W.heap.size + 2, 0, none⟩) 3 3) ⟨#[67, 69, 84]⟩ ⟨exT.types, exT.trans, [67, 69, 84]⟩))
      have CI1 := CI.out 36028797018963968
      rw [ex_last] at CI1
      have CI2 := Lib.hid CI1
      have CA1 := CA.out 36028797018963969
      rw [HA.out] at CA1
      unfold Lc.val at CA1
      dsimp only at CA1
      have CA2 := Lib.hid CA1
      clear CI1 CA1
      obtain ⟨⟨x0, x1, x2⟩, _, _, _⟩ := row3 (HK.out.at 1 rfl)
      go_wp2_with fail
      refine (CI2.out _ (TB.out _ (HK.out.at 3 rfl) (HK.out.at 2 rfl)) (HE.out.keep HK.out.below)).mono ?_
      rintro _ V2 ⟨rfl, hb⟩
      have KB := Lib.hid (HK.out.keep hb)
      clear hb x0 x1 x2
      obtain ⟨⟨x0, x1, x2⟩, _, _, _⟩ := row3 (KB.out.at 1 rfl)
      go_wp2_with fail
      refine (CA2.out _ (TB.out _ (KB.out.at 3 rfl) (KB.out.at 2 rfl)) (HE.out.keep KB.out.below)).mono ?_
      rintro _ V3 ⟨rfl, hb⟩
      have KC := Lib.hid (KB.out.keep hb)
      have KD := Lib.hid ((KC.out.set 1 rfl 2 (.string ⟨#[67, 69, 84]⟩) rfl).allocAt V3.heap.size (by simp) (.cells #[.int .i64 ao, .bool ad, .string aa] 28))
      clear hb x0 x1 x2
      obtain ⟨⟨x0, x1, x2⟩, s0, s1, s2⟩ := row3 (KC.out.at 1 rfl)
      have z0 := KC.out.lt 1 rfl
      go_wp2_with fail
      refine (CB.out _ (TC.out _ (KD.out.at 4 rfl) (KD.out.at 3 rfl)) (HE.out.keep KD.out.below)).mono ?_
      rintro _ V4 ⟨rfl, hb⟩
      have KE := Lib.hid ((KD.out.keep hb).alloc (.cells #[.int .i64 bo, .bool bd, .string ba] 28))
      clear hb x0 x1 x2 s0 s1 s2 z0
      go_wp2_with fail
      go_ret
      exact ⟨rfl, KE.out.below⟩
end Go.Proofs.YtlaplgaccjmbhaaGreatDoor.Px
