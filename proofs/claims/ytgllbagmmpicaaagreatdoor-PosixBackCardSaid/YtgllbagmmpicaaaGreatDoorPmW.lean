/- The TZ of a draft: the functions inside Made. -/
import Derived.Test.YtgllbagmmpicaaaGreatDoorPmP
import Derived.Deep.DeepCutAuto
import Derived.Deep.DeepFit
import Derived.Deep.RegionWith
namespace Go.Proofs.YtgllbagmmpicaaaGreatDoor.Px
open Go.RowKit
open Civ

theorem eight (n : Int) : n % 8 = 0 ∨ n % 8 = 1 ∨ n % 8 = 2 ∨ n % 8 = 3 ∨ n % 8 = 4 ∨ n % 8 = 5 ∨ n % 8 = 6 ∨ n % 8 = 7 := by omega
set_option maxHeartbeats 1000000 in
theorem made_name (n : Int) (h : U8 n) (w : World) :
    Calls Tryz.prog 50 #[.int .u8 n] w fun e w' => e = .returned (.string (nameN n)) ∧ Below w.heap.size w w' := by
  have h8 := eight n
  have t8 : n.tmod 8 = n % 8 := Int.tmod_eq_emod_of_nonneg h.1
  unfold nameN nameL8
  have HR := Lib.hid (rowAt_alloc w #[.string ⟨#[67, 69, 84]⟩, .string ⟨#[67, 69, 83, 84]⟩, .string ⟨#[43, 48, 53]⟩, .string ⟨#[45, 48, 51, 51, 48]⟩, .string ⟨#[65, 66, 67, 68, 69, 70, 71]⟩, .string ⟨#[65, 49, 45]⟩, .string ⟨#[88, 88, 88]⟩, .string ⟨#[103, 109, 116]⟩] 9)
  rcases h8 with h8 | h8 | h8 | h8 | h8 | h8 | h8 | h8
  all_goals
    rw [h8] at t8
    rw [h8]
    clear h8 h
    go_enter Tryz.func50, Tryz.ntmps50
    go_wp2_with fail
    go_ret
    exact ⟨rfl, (Below.refl _ w).alloc (Nat.le_refl _) _⟩

set_option maxHeartbeats 1000000 in
theorem made_off (n : Int) (h : U8 n) (w : World) :
    Calls Tryz.prog 51 #[.int .u8 n] w fun e w' => e = .returned (.int .i64 (offN n)) ∧ w = w' := by
  obtain ⟨h0, h1⟩ := h
  have q1 : IntKind.i64.wrap (n - 128) = n - 128 := IntWalk.i64_in _ (by omega)
  have q2 : IntKind.i64.wrap ((n - 128) * 700) = (n - 128) * 700 := IntWalk.i64_in _ (by omega)
  unfold offN
  go_enter Tryz.func51, Tryz.ntmps51
  go_wp2_with fail
  go_ret
  exact ⟨rfl, rfl⟩
set_option maxHeartbeats 4000000 in
theorem made_date (k d s : Int) (hk : U8 k) (hd : U8 d) (hs : U8 s) (w : World) :
    Calls Tryz.prog 52 #[.int .u8 k, .int .u8 d, .int .u8 s] w fun e w' => e = .returned (madeDt k d s).val ∧ Below w.heap.size w w' := by
  have h8 := eight s
  have k3 : k.tmod 3 = k % 3 := Int.tmod_eq_emod_of_nonneg hk.1
  have t8 : s.tmod 8 = s % 8 := Int.tmod_eq_emod_of_nonneg hs.1
  have HS := Lib.hid (show secN s = secs8.getD (s % 8).toNat 0 from rfl)
  obtain ⟨K, hK⟩ : ∃ K, k % 3 = K := ⟨_, rfl⟩
  have K0 : 0 ≤ K := by omega
  have K1 : K < 3 := by omega
  rw [hK] at k3
  obtain ⟨S, hS⟩ : ∃ S, secN s = S := ⟨_, rfl⟩
  rw [hS] at HS
  obtain ⟨k0, k1⟩ := hk
  obtain ⟨d0, d1⟩ := hd
  obtain ⟨s0, s1⟩ := hs
  have HM := Lib.hid (show madeDt k d s = if K = 0 then ⟨1, 1 + (d + s * 40) % 365, 0, 0, S⟩ else if K = 1 then ⟨2, (d + s * 40) % 366, 0, 0, S⟩ else ⟨3, d / 60 % 7, 1 + d % 12, 1 + d / 12 % 5, S⟩ by unfold madeDt; rw [hK, hS])
  obtain ⟨D, hD⟩ : ∃ D, madeDt k d s = D := ⟨_, rfl⟩
  rw [hD] at HM
  rw [hD]
  clear hK hS hD
  have q1 : IntKind.i64.wrap (1 + K) = 1 + K := IntWalk.i64_in _ (by omega)
  go_enter Tryz.func52, Tryz.ntmps52
  go_upto_region 1 with fail
  go_cut [7] (fun v wx => v = .pointer (some ⟨w.heap.size + 2, 0, none⟩) ∧ wx = (((w.alloc (.cells #[.int .i64 0, .int .i64 0, .int .i64 0, .int .i64 0, .int .i64 0] 23)).alloc (.cells #[.int .i64 7200, .int .i64 0, .int .i64 86400, .int .i64 3600, .int .i64 (-3600), .int .i64 604799, .int .i64 (-604799), .int .i64 5400] 2)).alloc (.cells #[.int .i64 (1 + K), .int .i64 0, .int .i64 0, .int .i64 0, .int .i64 S] 23)))
  case first =>
    rcases h8 with h8 | h8 | h8 | h8 | h8 | h8 | h8 | h8
    all_goals
      rw [h8] at t8 HS
      clear h8 HM
      go_wp2_with fail
      go_meet
      exact ⟨rfl, by rw [HS.out]; rfl⟩
  case rest =>
    obtain ⟨rfl, rfl⟩ := hcut
    have HB := Lib.hid ((((Below.refl _ w).alloc (Nat.le_refl _) (.cells #[.int .i64 0, .int .i64 0, .int .i64 0, .int .i64 0, .int .i64 0] 23)).alloc (by simp) (.cells #[.int .i64 7200, .int .i64 0, .int .i64 86400, .int .i64 3600, .int .i64 (-3600), .int .i64 604799, .int .i64 (-604799), .int .i64 5400] 2)).alloc (by simp; omega) (.cells #[.int .i64 (1 + K), .int .i64 0, .int .i64 0, .int .i64 0, .int .i64 S] 23))
    clear h8 t8 HS q1 k3
    by_cases K2 : K = 0
    · subst K2
      have q1 : IntKind.i64.wrap (s * 40) = s * 40 := IntWalk.i64_in _ (by omega)
      have q2 : IntKind.i64.wrap (d + s * 40) = d + s * 40 := IntWalk.i64_in _ (by omega)
      have q3 : (d + s * 40).tmod 365 = (d + s * 40) % 365 := Int.tmod_eq_emod_of_nonneg (by omega)
      have q4 : IntKind.i64.wrap (1 + (d + s * 40) % 365) = 1 + (d + s * 40) % 365 := IntWalk.i64_in _ (by omega)
      go_wp2_with fail
      refine bodyPost_ret (v := D.val) (by rw [HM.out]; simp [results, Tryz.results52, go_sem, Dt.val]) rfl ⟨rfl, ?_⟩
      exact (((Below.refl _ w).alloc (Nat.le_refl _) _).alloc (by simp) _).alloc (by simp; omega) _
    · by_cases K3 : K = 1
      · subst K3
        have q1 : IntKind.i64.wrap (s * 40) = s * 40 := IntWalk.i64_in _ (by omega)
        have q2 : IntKind.i64.wrap (d + s * 40) = d + s * 40 := IntWalk.i64_in _ (by omega)
        have q3 : (d + s * 40).tmod 366 = (d + s * 40) % 366 := Int.tmod_eq_emod_of_nonneg (by omega)
        go_wp2_with fail
        refine bodyPost_ret (v := D.val) (by rw [HM.out]; simp [results, Tryz.results52, go_sem, Dt.val]) rfl ⟨rfl, ?_⟩
        exact (((Below.refl _ w).alloc (Nat.le_refl _) _).alloc (by simp) _).alloc (by simp; omega) _
      · obtain rfl : K = 2 := by omega
        have q1 : d.tmod 12 = d % 12 := Int.tmod_eq_emod_of_nonneg (by omega)
        have q2 : d.tdiv 12 = d / 12 := Int.tdiv_eq_ediv_of_nonneg (by omega)
        have q3 : d.tdiv 60 = d / 60 := Int.tdiv_eq_ediv_of_nonneg (by omega)
        have q4 : (d / 12).tmod 5 = d / 12 % 5 := Int.tmod_eq_emod_of_nonneg (by omega)
        have q5 : (d / 60).tmod 7 = d / 60 % 7 := Int.tmod_eq_emod_of_nonneg (by omega)
        have q6 : IntKind.i64.wrap (1 + d % 12) = 1 + d % 12 := IntWalk.i64_in _ (by omega)
        have q7 : IntKind.i64.wrap (1 + d / 12 % 5) = 1 + d / 12 % 5 := IntWalk.i64_in _ (by omega)
        go_wp2_with fail
        refine bodyPost_ret (v := D.val) (by rw [HM.out]; simp [results, Tryz.results52, go_sem, Dt.val]) rfl ⟨rfl, ?_⟩
        exact (((Below.refl _ w).alloc (Nat.le_refl _) _).alloc (by simp) _).alloc (by simp; omega) _
end Go.Proofs.YtgllbagmmpicaaaGreatDoor.Px
