/- The methods seconds and number of analemmaref37.Reader. -/
import Derived.Test.YtgllbagmmpicaaaGreatDoorPrU
import Derived.Test.YtgllbagmmpicaaaGreatDoorOffW
import Derived.Test.YtgllbagmmpicaaaGreatDoorOffW
import Derived.Test.YtgllbagmmpicaaaGreatDoorOffW
import Derived.Test.YtgllbagmmpicaaaGreatDoorOffW
namespace Go.Proofs.YtgllbagmmpicaaaGreatDoor.Px
open Go.RowKit
open Civ
open Off (run past digQ parseO parsePost valD)

/-- what the loop's test finds at a byte -/
theorem sec_cases (c : UInt8) : (secQ c = true ∧ (((c.toNat : Int) == 45) = true ∨ (((c.toNat : Int) == 45) = false ∧ (((c.toNat : Int) == 58) = true ∨ (((c.toNat : Int) == 58) = false ∧ decide ((48 : Int) ≤ (c.toNat : Int)) = true ∧ decide ((c.toNat : Int) ≤ 57) = true))))) ∨
    (secQ c = false ∧ ((c.toNat : Int) == 45) = false ∧ ((c.toNat : Int) == 58) = false ∧ (decide ((48 : Int) ≤ (c.toNat : Int)) = false ∨ (decide ((48 : Int) ≤ (c.toNat : Int)) = true ∧ decide ((c.toNat : Int) ≤ 57) = false))) := by
  unfold secQ Off.digQ
  by_cases h1 : c.toNat = 45
  · left; exact ⟨by simp [h1], .inl (by rw [beq_iff_eq]; omega)⟩
  · have e1 : ((c.toNat : Int) == 45) = false := by rw [beq_eq_false_iff_ne]; omega
    by_cases h2 : c.toNat = 58
    · left; exact ⟨by simp [h2], .inr ⟨e1, .inl (by rw [beq_iff_eq]; omega)⟩⟩
    · have e2 : ((c.toNat : Int) == 58) = false := by rw [beq_eq_false_iff_ne]; omega
      by_cases h3 : 48 ≤ c.toNat
      · by_cases h4 : c.toNat ≤ 57
        · left; exact ⟨by simp [h3, h4], .inr ⟨e1, .inr ⟨e2, decide_eq_true (by omega), decide_eq_true (by omega)⟩⟩⟩
        · right; exact ⟨by simp [h1, h2, h4], e1, e2, .inr ⟨decide_eq_true (by omega), decide_eq_false (by omega)⟩⟩
      · right; exact ⟨by simp [h1, h2, h3], e1, e2, .inl (decide_eq_false (by omega))⟩
theorem run_exit {p : UInt8 → Bool} {l : List UInt8} {X : ByteArray} (hX : bs l = X) {k : Nat} (hk : k ≤ X.size) (ha : (l.take k).all p = true) (h : k = X.size ∨ ∃ h : k < X.size, p X[k] = false) : run p l = l.take k ∧ past p l = l.drop k := by
  have hz : X.size = l.length := by rw [← hX, bs_size]
  refine Off.run_of k l (by omega) ha ?_
  rcases h with h | ⟨h, h2⟩
  · left; omega
  · right
    obtain ⟨h3, h4⟩ := at_list hX k h
    exact ⟨h3, by rw [h4]; exact h2⟩
set_option maxHeartbeats 2000000 in
set_option maxRecDepth 100000 in
theorem rf_seconds (b : Nat) (l : List UInt8) (hl : l.length ≤ 1000000) (q : Bool) (w : World) (h : RfAt w b l q) :
    Calls Tryz.prog 30 #[.pointer (some ⟨b, 0, none⟩)] w (RfPost w b (.int .i64 (scV l)) (scR l) (q || scB l)) := by
  unfold scV scR scB
  obtain ⟨x, hx⟩ : ∃ x, (parseO (run secQ l)).1 = x := ⟨_, rfl⟩
  obtain ⟨y, hy⟩ : ∃ x, (parseO (run secQ l)).2 = x := ⟨_, rfl⟩
  obtain ⟨R, hR⟩ : ∃ x, past secQ l = x := ⟨_, rfl⟩
  have HXY := Lib.hid (And.intro hx (And.intro hy hR))
  rw [hx, hy, hR]
  clear hx hy hR
  have HR := Lib.hid h
  have hz := bs_size l
  obtain ⟨X, hX⟩ : ∃ X, bs l = X := ⟨_, rfl⟩
  rw [hX] at hz
  have HX := Lib.hid hX
  have hz2 : X.size ≤ 1000000 := by omega
  have HZ := Lib.hid hz
  have c0 := h.row.1.1
  rw [hX] at c0
  clear h hX hz
  go_enter Tryz.func30, Tryz.ntmps30
  go_wp2_with fail
  go_loop [3] (fun i => ∃ k : Nat, i = .int .i64 k ∧ k ≤ X.size ∧ (l.take k).all secQ = true) (fun i => X.size - (intOf i).toNat)
  case atStart => exact ⟨0, rfl, Nat.zero_le _, rfl⟩
  case round =>
    obtain ⟨k, rfl, hk, hall⟩ := hrel
    have HALL := Lib.hid hall
    clear hall
    have HEXIT := Lib.hid (fun h => run_exit (p := secQ) HX.out hk HALL.out h)
    have CT := Lib.hid (fun w2 h2 => rf_take k b l hl (by rw [← HZ.out]; exact hk) q w2 h2)
    have CPP := Lib.hid (fun w2 => Off.ref_parse (bs (l.take k)) (by rw [bs_size, List.length_take]; omega) w2)
    unfold RfPost at CT
    unfold parsePost at CPP
    rw [bs_list] at CPP
    by_cases hlt : k < X.size
    · have i1 : (k : Int) < (X.size : Int) := by omega
      have i0 : (0 : Int) ≤ (k : Int) := by omega
      have i2 : decide ((k : Int) < (X.size : Int)) = true := decide_eq_true i1
      rcases sec_cases X[k] with ⟨hs, hc⟩ | ⟨hs, hc1, hc2, hc⟩
      · have HNX := Lib.hid (show (l.take (k + 1)).all secQ = true by
          obtain ⟨h3, h4⟩ := at_list HX.out k hlt
          exact all_snoc h3 HALL.out (by rw [h4]; exact hs))
        clear hs
        rcases hc with hc | ⟨hc1, hc | ⟨hc2, hc3, hc4⟩⟩
        all_goals
          go_wp2_with fail
          exact ⟨⟨k + 1, by go_num, by omega, HNX.out⟩, by simp [intOf]; omega⟩
      · have HRP := Lib.hid (HEXIT.out (.inr ⟨hlt, hs⟩))
        clear hs
        rcases hc with hc | ⟨hc, hc4⟩
        all_goals
          have hxy := HXY.out
          rw [HRP.out.1, HRP.out.2] at hxy
          rw [hxy.1, hxy.2.1] at CPP
          rw [hxy.2.2] at CT
          clear hxy
          go_wp2_with fail
          refine (CT.out _ HR.out).mono ?_
          rintro _ V2 ⟨rfl, hb, hr⟩
          have HB2 := Lib.hid hb
          have HV2 := Lib.hid hr
          clear hb hr
          go_wp2_with fail
          refine (CPP.out _).mono ?_
          rintro _ V3 ⟨rfl, hb⟩
          have HB3 := Lib.hid (HB2.out.trans (But.of_below hb (Nat.le_of_lt HV2.out.lt)))
          have HV3 := Lib.hid (HV2.out.keep hb)
          obtain ⟨⟨d0, d1⟩, g0, g1⟩ := (HV2.out.keep hb).row
          clear hb
          by_cases hy0 : y = 0
          · have HY := Lib.hid hy0
            have t0 : (y != 0) = false := by rw [bne_eq_false_iff_eq]; exact hy0
            clear hy0
            go_wp2_with fail
            go_ret
            exact ⟨rfl, HB3.out, by rw [HY.out, show (q || decide ((0 : Int) ≠ 0)) = q by simp]; exact HV3.out⟩
          · have t0 : (y != 0) = true := by rw [bne_iff_ne]; exact hy0
            have HY := Lib.hid hy0
            clear hy0
            go_wp2_with fail
            go_ret
            exact ⟨rfl, HB3.out.trans (But.set _ _ _), by rw [decide_eq_true HY.out, Bool.or_true]; exact HV3.out.setB true⟩
    · have i2 : decide ((k : Int) < (X.size : Int)) = false := decide_eq_false (by omega)
      have HRP := Lib.hid (HEXIT.out (.inl (by omega)))
      have hxy := HXY.out
      rw [HRP.out.1, HRP.out.2] at hxy
      rw [hxy.1, hxy.2.1] at CPP
      rw [hxy.2.2] at CT
      clear hxy
      go_wp2_with fail
      refine (CT.out _ HR.out).mono ?_
      rintro _ V2 ⟨rfl, hb, hr⟩
      have HB2 := Lib.hid hb
      have HV2 := Lib.hid hr
      clear hb hr
      go_wp2_with fail
      refine (CPP.out _).mono ?_
      rintro _ V3 ⟨rfl, hb⟩
      have HB3 := Lib.hid (HB2.out.trans (But.of_below hb (Nat.le_of_lt HV2.out.lt)))
      have HV3 := Lib.hid (HV2.out.keep hb)
      obtain ⟨⟨d0, d1⟩, g0, g1⟩ := (HV2.out.keep hb).row
      clear hb
      by_cases hy0 : y = 0
      · have HY := Lib.hid hy0
        have t0 : (y != 0) = false := by rw [bne_eq_false_iff_eq]; exact hy0
        clear hy0
        go_wp2_with fail
        go_ret
        exact ⟨rfl, HB3.out, by rw [HY.out, show (q || decide ((0 : Int) ≠ 0)) = q by simp]; exact HV3.out⟩
      · have t0 : (y != 0) = true := by rw [bne_iff_ne]; exact hy0
        have HY := Lib.hid hy0
        clear hy0
        go_wp2_with fail
        go_ret
        exact ⟨rfl, HB3.out.trans (But.set _ _ _), by rw [decide_eq_true HY.out, Bool.or_true]; exact HV3.out.setB true⟩
set_option maxHeartbeats 4000000 in
set_option maxRecDepth 100000 in
theorem rf_number (b : Nat) (l : List UInt8) (hl : l.length ≤ 1000000) (q : Bool) (w : World) (h : RfAt w b l q) :
    Calls Tryz.prog 67 #[.pointer (some ⟨b, 0, none⟩)] w (RfPost w b (.int .i64 (rfF.v l)) (nuR l) (q || rfF.b l)) := by
  have ev : rfF.v l = refV (run digQ l) := rfl
  have eb : rfF.b l = refB (run digQ l) := rfl
  rw [ev, eb]
  unfold nuR
  obtain ⟨v, hv⟩ : ∃ x, refV (run digQ l) = x := ⟨_, rfl⟩
  obtain ⟨bb, hbb⟩ : ∃ x, refB (run digQ l) = x := ⟨_, rfl⟩
  obtain ⟨R, hR⟩ : ∃ x, past digQ l = x := ⟨_, rfl⟩
  have HXY := Lib.hid (And.intro hv (And.intro hbb hR))
  rw [hv, hbb, hR]
  clear hv hbb hR ev eb
  have HR := Lib.hid h
  have hz := bs_size l
  obtain ⟨X, hX⟩ : ∃ X, bs l = X := ⟨_, rfl⟩
  rw [hX] at hz
  have HX := Lib.hid hX
  have hz2 : X.size ≤ 1000000 := by omega
  have HZ := Lib.hid hz
  have c0 := h.row.1.1
  rw [hX] at c0
  clear h hX hz
  go_enter Tryz.func67, Tryz.ntmps67
  go_wp2_with fail
  go_loop [3] (fun i => ∃ k : Nat, i = .int .i64 k ∧ k ≤ X.size ∧ (l.take k).all digQ = true) (fun i => X.size - (intOf i).toNat)
  case atStart => exact ⟨0, rfl, Nat.zero_le _, rfl⟩
  case round =>
    obtain ⟨k, rfl, hk, hall⟩ := hrel
    have HALL := Lib.hid hall
    clear hall
    have HEXIT := Lib.hid (fun h => run_exit (p := digQ) HX.out hk HALL.out h)
    have CT := Lib.hid (fun w2 h2 => rf_take k b l hl (by rw [← HZ.out]; exact hk) q w2 h2)
    unfold RfPost at CT
    by_cases hlt : k < X.size
    · have i1 : (k : Int) < (X.size : Int) := by omega
      have i0 : (0 : Int) ≤ (k : Int) := by omega
      have i2 : decide ((k : Int) < (X.size : Int)) = true := decide_eq_true i1
      by_cases hs : digQ X[k] = true
      · have HNX := Lib.hid (show (l.take (k + 1)).all digQ = true by
          obtain ⟨h3, h4⟩ := at_list HX.out k hlt
          exact all_snoc h3 HALL.out (by rw [h4]; exact hs))
        have hd := digit_of hs
        have hc3 : decide ((48 : Int) ≤ (X[k].toNat : Int)) = true := decide_eq_true (by omega)
        have hc4 : decide ((X[k].toNat : Int) ≤ 57) = true := decide_eq_true (by omega)
        clear hs hd
        go_wp2_with fail
        exact ⟨⟨k + 1, by go_num, by omega, HNX.out⟩, by simp [intOf]; omega⟩
      · have hs' : digQ X[k] = false := by simpa using hs
        have HRP := Lib.hid (HEXIT.out (.inr ⟨hlt, hs'⟩))
        have hc : decide ((48 : Int) ≤ (X[k].toNat : Int)) = false ∨ (decide ((48 : Int) ≤ (X[k].toNat : Int)) = true ∧ decide ((X[k].toNat : Int) ≤ 57) = false) := by
          unfold Off.digQ at hs
          by_cases h1 : 48 ≤ X[k].toNat
          · right; exact ⟨decide_eq_true (by omega), decide_eq_false (by intro h2; apply hs; simp; omega)⟩
          · left; exact decide_eq_false (by omega)
        clear hs hs'
        rcases hc with hc | ⟨hc, hc4⟩
        all_goals
          have hxy := HXY.out
          rw [HRP.out.1, HRP.out.2] at hxy
          obtain ⟨hv, hbb, hR⟩ := hxy
          rw [hR] at CT
          have hzk : (bs (l.take k)).size = k := by rw [bs_size, List.length_take]; have := HZ.out; omega
          cases hrb : refB (l.take k)
          · have hg := refB_iff.1 hrb
            have HV0 := Lib.hid (show v = (valD (l.take k) : Int) by rw [← hv]; unfold refV; rw [hrb]; rfl)
            have HBV := Lib.hid (show bb = false by rw [← hbb, hrb])
            have hk0 : 1 ≤ k := by
              have := List.length_pos_iff.2 hg.1
              rw [List.length_take] at this; omega
            have hk3 : k ≤ 3 := by have := hg.2.1; rw [List.length_take] at this; have := HZ.out; omega
            have hh : (k : Int) ≤ 1 ∨ ((1 : Int) < (k : Int) ∧ ∃ h : 0 < (bs (l.take k)).size, (((bs (l.take k))[0].toNat : Int) == 48) = false) := by
              by_cases hk1 : k = 1
              · left; omega
              · right
                refine ⟨by omega, by omega, ?_⟩
                rw [Off.head_at, beq_eq_false_iff_ne]
                intro h
                rcases hg.2.2 with h2 | h2
                · apply h2
                  obtain ⟨a, t, e⟩ := List.exists_cons_of_ne_nil hg.1
                  rw [e] at h ⊢
                  rw [List.head?_cons]
                  rw [List.headD_cons] at h
                  rw [show a = 48 from UInt8.toNat_inj.1 (by have : (48 : UInt8).toNat = 48 := rfl; omega)]
                · rw [List.length_take] at h2; have := HZ.out; omega
            have t0 : ((k : Int) == 0) = false := by rw [beq_eq_false_iff_ne]; omega
            have j3 : (k : Int) ≤ 3 := by omega
            have hdig := HALL.out
            obtain ⟨m, hm⟩ : ∃ m, l.take k = m := ⟨_, rfl⟩
            rw [hm] at CT HV0 hh hzk hdig
            obtain ⟨S, hS⟩ : ∃ S, bs m = S := ⟨_, rfl⟩
            rw [hS] at CT hh hzk
            have HS := Lib.hid hS
            have HDG := Lib.hid hdig
            have js : (S.size : Int) = (k : Int) := by omega
            have JS := Lib.hid js
            have jsk : (k : Int) ≤ (S.size : Int) := by omega
            clear hrb hg hk0 hm hS hdig hv hbb hR hzk js HEXIT
            rcases hh with j1 | ⟨j1, j0, j2⟩
            all_goals
              go_wp2_with fail
              refine (CT.out _ HR.out).mono ?_
              rintro _ V2 ⟨rfl, hb, hr⟩
              have HB2 := Lib.hid hb
              have HV2 := Lib.hid hr
              clear hb hr
              go_wp2_with fail
              go_loop [5, 6] (fun x i => ∃ j : Nat, i = .int .i64 j ∧ j ≤ k ∧ x = .int .i64 (valD (m.take j) : Int)) (fun _ i => k - (intOf i).toNat)
              case atStart => exact ⟨0, rfl, Nat.zero_le _, rfl⟩
              case round =>
                obtain ⟨j, rfl, hj, rfl⟩ := hrel
                have hvl := Off.valD_lt (m.take j) (by
                  have := HDG.out
                  rw [List.all_eq_true] at this ⊢
                  exact fun x hx => this x (List.mem_of_mem_take hx))
                have hvl2 := Nat.pow_le_pow_right (n := 10) (by decide) (show (m.take j).length ≤ 3 by rw [List.length_take]; omega)
                have hvl3 : (valD (m.take j) : Int) ≤ 999 := by omega
                clear hvl hvl2
                by_cases hjk : j < k
                · have q1 : (j : Int) < (k : Int) := by omega
                  have q2 : (j : Int) < (S.size : Int) := by have := JS.out; omega
                  have hjs : j < S.size := by omega
                  obtain ⟨h3, h4⟩ := at_list HS.out j hjs
                  have hdd := digit_of (List.all_eq_true.1 HDG.out _ (List.getElem_mem h3))
                  rw [h4] at hdd
                  have HNX := Lib.hid (show (valD (m.take (j + 1)) : Int) = 10 * (valD (m.take j) : Int) + ((S[j].toNat : Int) - 48) by
                    rw [List.take_succ_eq_append_getElem h3, h4, Off.valD_snoc]; omega)
                  have q3 : (48 : Int) ≤ (S[j].toNat : Int) := by omega
                  have q4 : (S[j].toNat : Int) ≤ 57 := by omega
                  obtain ⟨x, hx⟩ : ∃ x : Nat, valD (m.take j) = x := ⟨_, rfl⟩
                  rw [hx] at HNX hvl3
                  rw [hx]
                  clear hdd hx h3 h4
                  go_wp2_with fail
                  go_round
                  case rel => exact ⟨j + 1, by go_num, by omega, by rw [HNX.out]⟩
                  case measure => simp [intOf]; omega
                · obtain rfl : j = k := by omega
                  have HVK := Lib.hid (show valD (m.take j) = valD m by rw [List.take_of_length_le (by have := JS.out; rw [← HS.out, bs_size] at this; omega)])
                  go_wp2_with fail
                  go_ret
                  exact ⟨ret1 (by rw [HV0.out, ← HVK.out]), HB2.out, by rw [HBV.out, Bool.or_false]; exact HV2.out⟩
          · have HV0 := Lib.hid (show v = 0 by rw [← hv]; unfold refV; rw [hrb]; rfl)
            have HBV := Lib.hid (show bb = true by rw [← hbb, hrb])
            by_cases hk0 : k = 0
            · have t0 : ((k : Int) == 0) = true := by rw [beq_iff_eq]; omega
              clear hrb hv hbb hR hzk hk0 HEXIT
              go_wp2_with fail
              refine (CT.out _ HR.out).mono ?_
              rintro _ V2 ⟨rfl, hb, hr⟩
              have HB2 := Lib.hid hb
              have HV2 := Lib.hid hr
              obtain ⟨⟨d0, d1⟩, g0, g1⟩ := hr.row
              clear hb hr
              go_wp2_with fail
              go_ret
              exact ⟨ret1 (by rw [HV0.out]), HB2.out.trans (But.set _ _ _), by rw [HBV.out, Bool.or_true]; exact HV2.out.setB true⟩
            · have t0 : ((k : Int) == 0) = false := by rw [beq_eq_false_iff_ne]; omega
              by_cases hk3 : 3 < k
              · have j3 : (3 : Int) < (k : Int) := by omega
                clear hrb hv hbb hR hzk hk0 HEXIT
                go_wp2_with fail
                refine (CT.out _ HR.out).mono ?_
                rintro _ V2 ⟨rfl, hb, hr⟩
                have HB2 := Lib.hid hb
                have HV2 := Lib.hid hr
                obtain ⟨⟨d0, d1⟩, g0, g1⟩ := hr.row
                clear hb hr
                go_wp2_with fail
                go_ret
                exact ⟨ret1 (by rw [HV0.out]), HB2.out.trans (But.set _ _ _), by rw [HBV.out, Bool.or_true]; exact HV2.out.setB true⟩
              · have j3 : (k : Int) ≤ 3 := by omega
                have hh : (1 : Int) < (k : Int) ∧ ∃ h : 0 < (bs (l.take k)).size, (((bs (l.take k))[0].toNat : Int) == 48) = true := by
                  have hl0 : l.take k ≠ [] := by intro e; rw [e] at hzk; exact hk0 hzk.symm
                  have hlk : (l.take k).length = k := by have h := hzk; rw [bs_size] at h; exact h
                  by_cases hk1 : k = 1
                  · exact absurd (refB_iff.2 ⟨hl0, by omega, .inr (by omega)⟩) (by rw [hrb]; decide)
                  · refine ⟨by omega, by omega, ?_⟩
                    rw [Off.head_at, beq_iff_eq]
                    by_cases hh : (l.take k).head? = some 48
                    · obtain ⟨a, t, e⟩ := List.exists_cons_of_ne_nil hl0
                      rw [e] at hh ⊢
                      rw [List.head?_cons] at hh
                      rw [List.headD_cons, Option.some.inj hh]; rfl
                    · exact absurd (refB_iff.2 ⟨hl0, by omega, .inl hh⟩) (by rw [hrb]; decide)
                obtain ⟨S, hS⟩ : ∃ S, bs (l.take k) = S := ⟨_, rfl⟩
                rw [hS] at CT hh hzk
                obtain ⟨j1, j0, j2⟩ := hh
                have jsk : (k : Int) ≤ (S.size : Int) := by omega
                clear hrb hv hbb hR hzk hk0 hS HEXIT
                go_wp2_with fail
                refine (CT.out _ HR.out).mono ?_
                rintro _ V2 ⟨rfl, hb, hr⟩
                have HB2 := Lib.hid hb
                have HV2 := Lib.hid hr
                obtain ⟨⟨d0, d1⟩, g0, g1⟩ := hr.row
                clear hb hr
                go_wp2_with fail
                go_ret
                exact ⟨ret1 (by rw [HV0.out]), HB2.out.trans (But.set _ _ _), by rw [HBV.out, Bool.or_true]; exact HV2.out.setB true⟩
    · have i2 : decide ((k : Int) < (X.size : Int)) = false := decide_eq_false (by omega)
      have HRP := Lib.hid (HEXIT.out (.inl (by omega)))
      have hxy := HXY.out
      rw [HRP.out.1, HRP.out.2] at hxy
      obtain ⟨hv, hbb, hR⟩ := hxy
      rw [hR] at CT
      have hzk : (bs (l.take k)).size = k := by rw [bs_size, List.length_take]; have := HZ.out; omega
      cases hrb : refB (l.take k)
      · have hg := refB_iff.1 hrb
        have HV0 := Lib.hid (show v = (valD (l.take k) : Int) by rw [← hv]; unfold refV; rw [hrb]; rfl)
        have HBV := Lib.hid (show bb = false by rw [← hbb, hrb])
        have hk0 : 1 ≤ k := by
          have := List.length_pos_iff.2 hg.1
          rw [List.length_take] at this; omega
        have hk3 : k ≤ 3 := by have := hg.2.1; rw [List.length_take] at this; have := HZ.out; omega
        have hh : (k : Int) ≤ 1 ∨ ((1 : Int) < (k : Int) ∧ ∃ h : 0 < (bs (l.take k)).size, (((bs (l.take k))[0].toNat : Int) == 48) = false) := by
          by_cases hk1 : k = 1
          · left; omega
          · right
            refine ⟨by omega, by omega, ?_⟩
            rw [Off.head_at, beq_eq_false_iff_ne]
            intro h
            rcases hg.2.2 with h2 | h2
            · apply h2
              obtain ⟨a, t, e⟩ := List.exists_cons_of_ne_nil hg.1
              rw [e] at h ⊢
              rw [List.head?_cons]
              rw [List.headD_cons] at h
              rw [show a = 48 from UInt8.toNat_inj.1 (by have : (48 : UInt8).toNat = 48 := rfl; omega)]
            · rw [List.length_take] at h2; have := HZ.out; omega
        have t0 : ((k : Int) == 0) = false := by rw [beq_eq_false_iff_ne]; omega
        have j3 : (k : Int) ≤ 3 := by omega
        have hdig := HALL.out
        obtain ⟨m, hm⟩ : ∃ m, l.take k = m := ⟨_, rfl⟩
        rw [hm] at CT HV0 hh hzk hdig
        obtain ⟨S, hS⟩ : ∃ S, bs m = S := ⟨_, rfl⟩
        rw [hS] at CT hh hzk
        have HS := Lib.hid hS
        have HDG := Lib.hid hdig
        have js : (S.size : Int) = (k : Int) := by omega
        have JS := Lib.hid js
        have jsk : (k : Int) ≤ (S.size : Int) := by omega
        clear hrb hg hk0 hm hS hdig hv hbb hR hzk js HEXIT
        rcases hh with j1 | ⟨j1, j0, j2⟩
        all_goals
          go_wp2_with fail
          refine (CT.out _ HR.out).mono ?_
          rintro _ V2 ⟨rfl, hb, hr⟩
          have HB2 := Lib.hid hb
          have HV2 := Lib.hid hr
          clear hb hr
          go_wp2_with fail
          go_loop [5, 6] (fun x i => ∃ j : Nat, i = .int .i64 j ∧ j ≤ k ∧ x = .int .i64 (valD (m.take j) : Int)) (fun _ i => k - (intOf i).toNat)
          case atStart => exact ⟨0, rfl, Nat.zero_le _, rfl⟩
          case round =>
            obtain ⟨j, rfl, hj, rfl⟩ := hrel
            have hvl := Off.valD_lt (m.take j) (by
              have := HDG.out
              rw [List.all_eq_true] at this ⊢
              exact fun x hx => this x (List.mem_of_mem_take hx))
            have hvl2 := Nat.pow_le_pow_right (n := 10) (by decide) (show (m.take j).length ≤ 3 by rw [List.length_take]; omega)
            have hvl3 : (valD (m.take j) : Int) ≤ 999 := by omega
            clear hvl hvl2
            by_cases hjk : j < k
            · have q1 : (j : Int) < (k : Int) := by omega
              have q2 : (j : Int) < (S.size : Int) := by have := JS.out; omega
              have hjs : j < S.size := by omega
              obtain ⟨h3, h4⟩ := at_list HS.out j hjs
              have hdd := digit_of (List.all_eq_true.1 HDG.out _ (List.getElem_mem h3))
              rw [h4] at hdd
              have HNX := Lib.hid (show (valD (m.take (j + 1)) : Int) = 10 * (valD (m.take j) : Int) + ((S[j].toNat : Int) - 48) by
                rw [List.take_succ_eq_append_getElem h3, h4, Off.valD_snoc]; omega)
              have q3 : (48 : Int) ≤ (S[j].toNat : Int) := by omega
              have q4 : (S[j].toNat : Int) ≤ 57 := by omega
              obtain ⟨x, hx⟩ : ∃ x : Nat, valD (m.take j) = x := ⟨_, rfl⟩
              rw [hx] at HNX hvl3
              rw [hx]
              clear hdd hx h3 h4
              go_wp2_with fail
              go_round
              case rel => exact ⟨j + 1, by go_num, by omega, by rw [HNX.out]⟩
              case measure => simp [intOf]; omega
            · obtain rfl : j = k := by omega
              have HVK := Lib.hid (show valD (m.take j) = valD m by rw [List.take_of_length_le (by have := JS.out; rw [← HS.out, bs_size] at this; omega)])
              go_wp2_with fail
              go_ret
              exact ⟨ret1 (by rw [HV0.out, ← HVK.out]), HB2.out, by rw [HBV.out, Bool.or_false]; exact HV2.out⟩
      · have HV0 := Lib.hid (show v = 0 by rw [← hv]; unfold refV; rw [hrb]; rfl)
        have HBV := Lib.hid (show bb = true by rw [← hbb, hrb])
        by_cases hk0 : k = 0
        · have t0 : ((k : Int) == 0) = true := by rw [beq_iff_eq]; omega
          clear hrb hv hbb hR hzk hk0 HEXIT
          go_wp2_with fail
          refine (CT.out _ HR.out).mono ?_
          rintro _ V2 ⟨rfl, hb, hr⟩
          have HB2 := Lib.hid hb
          have HV2 := Lib.hid hr
          obtain ⟨⟨d0, d1⟩, g0, g1⟩ := hr.row
          clear hb hr
          go_wp2_with fail
          go_ret
          exact ⟨ret1 (by rw [HV0.out]), HB2.out.trans (But.set _ _ _), by rw [HBV.out, Bool.or_true]; exact HV2.out.setB true⟩
        · have t0 : ((k : Int) == 0) = false := by rw [beq_eq_false_iff_ne]; omega
          by_cases hk3 : 3 < k
          · have j3 : (3 : Int) < (k : Int) := by omega
            clear hrb hv hbb hR hzk hk0 HEXIT
            go_wp2_with fail
            refine (CT.out _ HR.out).mono ?_
            rintro _ V2 ⟨rfl, hb, hr⟩
            have HB2 := Lib.hid hb
            have HV2 := Lib.hid hr
            obtain ⟨⟨d0, d1⟩, g0, g1⟩ := hr.row
            clear hb hr
            go_wp2_with fail
            go_ret
            exact ⟨ret1 (by rw [HV0.out]), HB2.out.trans (But.set _ _ _), by rw [HBV.out, Bool.or_true]; exact HV2.out.setB true⟩
          · have j3 : (k : Int) ≤ 3 := by omega
            have hh : (1 : Int) < (k : Int) ∧ ∃ h : 0 < (bs (l.take k)).size, (((bs (l.take k))[0].toNat : Int) == 48) = true := by
              have hl0 : l.take k ≠ [] := by intro e; rw [e] at hzk; exact hk0 hzk.symm
              have hlk : (l.take k).length = k := by have h := hzk; rw [bs_size] at h; exact h
              by_cases hk1 : k = 1
              · exact absurd (refB_iff.2 ⟨hl0, by omega, .inr (by omega)⟩) (by rw [hrb]; decide)
              · refine ⟨by omega, by omega, ?_⟩
                rw [Off.head_at, beq_iff_eq]
                by_cases hh : (l.take k).head? = some 48
                · obtain ⟨a, t, e⟩ := List.exists_cons_of_ne_nil hl0
                  rw [e] at hh ⊢
                  rw [List.head?_cons] at hh
                  rw [List.headD_cons, Option.some.inj hh]; rfl
                · exact absurd (refB_iff.2 ⟨hl0, by omega, .inl hh⟩) (by rw [hrb]; decide)
            obtain ⟨S, hS⟩ : ∃ S, bs (l.take k) = S := ⟨_, rfl⟩
            rw [hS] at CT hh hzk
            obtain ⟨j1, j0, j2⟩ := hh
            have jsk : (k : Int) ≤ (S.size : Int) := by omega
            clear hrb hv hbb hR hzk hk0 hS HEXIT
            go_wp2_with fail
            refine (CT.out _ HR.out).mono ?_
            rintro _ V2 ⟨rfl, hb, hr⟩
            have HB2 := Lib.hid hb
            have HV2 := Lib.hid hr
            obtain ⟨⟨d0, d1⟩, g0, g1⟩ := hr.row
            clear hb hr
            go_wp2_with fail
            go_ret
            exact ⟨ret1 (by rw [HV0.out]), HB2.out.trans (But.set _ _ _), by rw [HBV.out, Bool.or_true]; exact HV2.out.setB true⟩
end Go.Proofs.YtgllbagmmpicaaaGreatDoor.Px
