/- The methods name, seconds and number of analemmaref37.Reader. -/
import Derived.Test.YtgllbagmmpicaaaGreatDoorPrT
import Derived.Test.YtgllbagmmpicaaaGreatDoorOffS
namespace Go.Proofs.YtgllbagmmpicaaaGreatDoor.Px
open Go.RowKit
open Civ
open Off (run past digQ parseO parsePost)

theorem at_list {l : List UInt8} {X : ByteArray} (hX : bs l = X) (k : Nat) (h : k < X.size) : ∃ h2 : k < l.length, l[k] = X[k] := by
  subst hX
  exact ⟨by rw [bs_size] at h; exact h, rfl⟩
theorem all_snoc {p : UInt8 → Bool} {l : List UInt8} {k : Nat} (h : k < l.length) (ha : (l.take k).all p = true) (hc : p l[k] = true) : (l.take (k + 1)).all p = true := by
  rw [List.take_succ_eq_append_getElem h, List.all_append, ha]; simp [hc]
set_option maxHeartbeats 2000000 in
set_option maxRecDepth 100000 in
theorem rf_name_plain (b : Nat) (l : List UInt8) (hl : l.length ≤ 1000000) (hq : nextB 60 l = false) (q : Bool) (w : World) (h : RfAt w b l q) :
    Calls Tryz.prog 29 #[.pointer (some ⟨b, 0, none⟩)] w (RfPost w b (.string (bs (nmS l))) (nmR l) (q || nmB l || !nameOk (nmS l))) := by
  have CN := Lib.hid (fun w2 h2 => rf_next 60 b l hl q w2 h2)
  unfold RfPost at CN
  rw [hq] at CN
  have hl1 := nextR_le 60 l
  unfold nmS nmR nmB nmT nmP
  rw [hq]
  rw [if_neg (by decide), if_neg (by decide), Bool.false_and, Bool.or_false]
  obtain ⟨l1, hl1e⟩ : ∃ x, nextR 60 l = x := ⟨_, rfl⟩
  rw [hl1e] at CN hl1 ⊢
  have hl1z : l1.length ≤ 1000000 := by omega
  have HR := Lib.hid h
  have hz := bs_size l1
  obtain ⟨X, hX⟩ : ∃ X, bs l1 = X := ⟨_, rfl⟩
  rw [hX] at hz
  have HX := Lib.hid hX
  have hz2 : X.size ≤ 1000000 := by omega
  have HZ := Lib.hid hz
  clear h hl1e hX hz hl1 hq
  go_enter Tryz.func29, Tryz.ntmps29
  go_wp2_with fail
  refine (CN.out _ HR.out).mono ?_
  rintro e V ⟨rfl, hb, hr⟩
  have HB := Lib.hid hb
  have HV := Lib.hid hr
  have c0 := hr.row.1.1
  rw [HX.out] at c0
  clear hb hr
  go_wp2_with fail
  go_loop [4] (fun i => ∃ k : Nat, i = .int .i64 k ∧ k ≤ X.size ∧ (l1.take k).all letC = true) (fun i => X.size - (intOf i).toNat)
  case atStart => exact ⟨0, rfl, Nat.zero_le _, rfl⟩
  case round =>
    obtain ⟨k, rfl, hk, hall⟩ := hrel
    have HALL := Lib.hid hall
    clear hall
    have hexit : (k = X.size ∨ ∃ h : k < X.size, letC X[k] = false) → run letC l1 = l1.take k ∧ past letC l1 = l1.drop k := by
      intro h
      refine Off.run_of k l1 (by rw [← HZ.out]; exact hk) HALL.out ?_
      rcases h with h | ⟨h, h2⟩
      · left; rw [h, HZ.out]
      · right
        obtain ⟨h3, h4⟩ := at_list HX.out k h
        exact ⟨h3, by rw [h4]; exact h2⟩
    have HEXIT := Lib.hid hexit
    clear hexit
    have CT := Lib.hid (fun w2 h2 => rf_take k b l1 hl1z (by rw [← HZ.out]; exact hk) q w2 h2)
    have CNM := Lib.hid (fun w2 => ref_name (bs (l1.take k)) (by rw [bs_size, List.length_take]; have := HZ.out; omega) w2)
    unfold RfPost at CT
    unfold NamePost at CNM
    have CW := Lib.hid (fun q2 w2 h2 => rf_want 62 b (l1.drop k) (by rw [List.length_drop]; omega) q2 w2 h2)
    unfold RfPost at CW
    by_cases hlt : k < X.size
    · have i1 : (k : Int) < (X.size : Int) := by omega
      have i0 : (0 : Int) ≤ (k : Int) := by omega
      have i2 : decide ((k : Int) < (X.size : Int)) = true := decide_eq_true i1
      obtain ⟨c1, hc1⟩ : ∃ c, letC X[k] = c := ⟨_, rfl⟩
      obtain ⟨c2, hc2⟩ : ∃ c, othC X[k] = c := ⟨_, rfl⟩
      have C1 := Lib.hid (ref_letter X[k] c1 hc1)
      have C2 := Lib.hid (ref_other X[k] c2 hc2)
      cases c1
      · have HRP := Lib.hid (HEXIT.out (.inr ⟨hlt, hc1⟩))
        clear hc1 hc2
        go_wp2_with fail
        refine (C1.out _).mono ?_
        rintro e w' ⟨rfl, rfl⟩
        go_wp2_with fail
        refine (CT.out _ HV.out).mono ?_
        rintro _ V2 ⟨rfl, hb, hr⟩
        have HB2 := Lib.hid (HB.out.trans hb)
        have HV2 := Lib.hid hr
        clear hb hr
        go_wp2_with fail
        refine (CNM.out _).mono ?_
        rintro _ _ ⟨bx, rfl, _, rfl⟩
        obtain ⟨⟨d0, d1⟩, g0, g1⟩ := HV2.out.row
        rw [bs_list]
        obtain ⟨ok, hok⟩ : ∃ o, nameOk (l1.take k) = o := ⟨_, rfl⟩
        have HS := Lib.hid (show nameOk (run letC l1) = ok by rw [HRP.out.1, hok])
        rw [hok]
        clear hok
        cases ok
        · go_wp2_with fail
          go_ret
          refine ⟨congrArg (fun s => Ending.returned (Value.string (bs s))) HRP.out.1.symm, HB2.out.trans (But.set _ _ _), ?_⟩
          rw [HS.out, HRP.out.2, show (q || !false) = true by simp]
          exact HV2.out.setB true
        · go_wp2_with fail
          go_ret
          refine ⟨congrArg (fun s => Ending.returned (Value.string (bs s))) HRP.out.1.symm, HB2.out, ?_⟩
          rw [HS.out, HRP.out.2, show (q || !true) = q by simp]
          exact HV2.out
      · have HNX := Lib.hid (show (l1.take (k + 1)).all letC = true by
          obtain ⟨h3, h4⟩ := at_list HX.out k hlt
          exact all_snoc h3 HALL.out (by rw [h4]; exact hc1))
        clear hc1 hc2
        go_wp2_with fail
        refine (C1.out _).mono ?_
        rintro e w' ⟨rfl, rfl⟩
        go_wp2_with fail
        exact ⟨⟨k + 1, by go_num, by omega, HNX.out⟩, by simp [intOf]; omega⟩
    · have i2 : decide ((k : Int) < (X.size : Int)) = false := decide_eq_false (by omega)
      have HRP := Lib.hid (HEXIT.out (.inl (by omega)))
      go_wp2_with fail
      refine (CT.out _ HV.out).mono ?_
      rintro _ V2 ⟨rfl, hb, hr⟩
      have HB2 := Lib.hid (HB.out.trans hb)
      have HV2 := Lib.hid hr
      clear hb hr
      go_wp2_with fail
      refine (CNM.out _).mono ?_
      rintro _ _ ⟨bx, rfl, _, rfl⟩
      obtain ⟨⟨d0, d1⟩, g0, g1⟩ := HV2.out.row
      rw [bs_list]
      obtain ⟨ok, hok⟩ : ∃ o, nameOk (l1.take k) = o := ⟨_, rfl⟩
      have HS := Lib.hid (show nameOk (run letC l1) = ok by rw [HRP.out.1, hok])
      rw [hok]
      clear hok
      cases ok
      · go_wp2_with fail
        go_ret
        refine ⟨congrArg (fun s => Ending.returned (Value.string (bs s))) HRP.out.1.symm, HB2.out.trans (But.set _ _ _), ?_⟩
        rw [HS.out, HRP.out.2, show (q || !false) = true by simp]
        exact HV2.out.setB true
      · go_wp2_with fail
        go_ret
        refine ⟨congrArg (fun s => Ending.returned (Value.string (bs s))) HRP.out.1.symm, HB2.out, ?_⟩
        rw [HS.out, HRP.out.2, show (q || !true) = q by simp]
        exact HV2.out
set_option maxHeartbeats 2000000 in
set_option maxRecDepth 100000 in
theorem rf_name_quoted (b : Nat) (l : List UInt8) (hl : l.length ≤ 1000000) (hq : nextB 60 l = true) (q : Bool) (w : World) (h : RfAt w b l q) :
    Calls Tryz.prog 29 #[.pointer (some ⟨b, 0, none⟩)] w (RfPost w b (.string (bs (nmS l))) (nmR l) (q || nmB l || !nameOk (nmS l))) := by
  have CN := Lib.hid (fun w2 h2 => rf_next 60 b l hl q w2 h2)
  unfold RfPost at CN
  rw [hq] at CN
  have hl1 := nextR_le 60 l
  unfold nmS nmR nmB nmT nmP
  rw [hq]
  rw [if_pos rfl, if_pos rfl, Bool.true_and]
  obtain ⟨l1, hl1e⟩ : ∃ x, nextR 60 l = x := ⟨_, rfl⟩
  rw [hl1e] at CN hl1 ⊢
  have hl1z : l1.length ≤ 1000000 := by omega
  have HR := Lib.hid h
  have hz := bs_size l1
  obtain ⟨X, hX⟩ : ∃ X, bs l1 = X := ⟨_, rfl⟩
  rw [hX] at hz
  have HX := Lib.hid hX
  have hz2 : X.size ≤ 1000000 := by omega
  have HZ := Lib.hid hz
  clear h hl1e hX hz hl1 hq
  go_enter Tryz.func29, Tryz.ntmps29
  go_wp2_with fail
  refine (CN.out _ HR.out).mono ?_
  rintro e V ⟨rfl, hb, hr⟩
  have HB := Lib.hid hb
  have HV := Lib.hid hr
  have c0 := hr.row.1.1
  rw [HX.out] at c0
  clear hb hr
  go_wp2_with fail
  go_loop [4] (fun i => ∃ k : Nat, i = .int .i64 k ∧ k ≤ X.size ∧ (l1.take k).all inB = true) (fun i => X.size - (intOf i).toNat)
  case atStart => exact ⟨0, rfl, Nat.zero_le _, rfl⟩
  case round =>
    obtain ⟨k, rfl, hk, hall⟩ := hrel
    have HALL := Lib.hid hall
    clear hall
    have hexit : (k = X.size ∨ ∃ h : k < X.size, inB X[k] = false) → run inB l1 = l1.take k ∧ past inB l1 = l1.drop k := by
      intro h
      refine Off.run_of k l1 (by rw [← HZ.out]; exact hk) HALL.out ?_
      rcases h with h | ⟨h, h2⟩
      · left; rw [h, HZ.out]
      · right
        obtain ⟨h3, h4⟩ := at_list HX.out k h
        exact ⟨h3, by rw [h4]; exact h2⟩
    have HEXIT := Lib.hid hexit
    clear hexit
    have CT := Lib.hid (fun w2 h2 => rf_take k b l1 hl1z (by rw [← HZ.out]; exact hk) q w2 h2)
    have CNM := Lib.hid (fun w2 => ref_name (bs (l1.take k)) (by rw [bs_size, List.length_take]; have := HZ.out; omega) w2)
    unfold RfPost at CT
    unfold NamePost at CNM
    have CW := Lib.hid (fun q2 w2 h2 => rf_want 62 b (l1.drop k) (by rw [List.length_drop]; omega) q2 w2 h2)
    unfold RfPost at CW
    by_cases hlt : k < X.size
    · have i1 : (k : Int) < (X.size : Int) := by omega
      have i0 : (0 : Int) ≤ (k : Int) := by omega
      have i2 : decide ((k : Int) < (X.size : Int)) = true := decide_eq_true i1
      obtain ⟨c1, hc1⟩ : ∃ c, letC X[k] = c := ⟨_, rfl⟩
      obtain ⟨c2, hc2⟩ : ∃ c, othC X[k] = c := ⟨_, rfl⟩
      have C1 := Lib.hid (ref_letter X[k] c1 hc1)
      have C2 := Lib.hid (ref_other X[k] c2 hc2)
      cases c1
      · cases c2
        · have HRP := Lib.hid (HEXIT.out (.inr ⟨hlt, by unfold inB; rw [hc1, hc2]; rfl⟩))
          clear hc1 hc2
          go_wp2_with fail
          refine (C1.out _).mono ?_
          rintro e w' ⟨rfl, rfl⟩
          go_wp2_with fail
          refine (C2.out _).mono ?_
          rintro e w' ⟨rfl, rfl⟩
          go_wp2_with fail
          refine (CT.out _ HV.out).mono ?_
          rintro _ V2 ⟨rfl, hb, hr⟩
          have HB2 := Lib.hid (HB.out.trans hb)
          have HV2 := Lib.hid hr
          clear hb hr
          go_wp2_with fail
          refine (CNM.out _).mono ?_
          rintro _ _ ⟨bx, rfl, _, rfl⟩
          obtain ⟨⟨d0, d1⟩, g0, g1⟩ := HV2.out.row
          rw [bs_list]
          obtain ⟨ok, hok⟩ : ∃ o, nameOk (l1.take k) = o := ⟨_, rfl⟩
          have HS := Lib.hid (show nameOk (run inB l1) = ok by rw [HRP.out.1, hok])
          rw [hok]
          clear hok
          cases ok
          · go_wp2_with fail
            refine (CW.out true _ (HV2.out.setB true)).mono ?_
            rintro _ V3 ⟨_, rfl, hb, hr⟩
            have HB3 := Lib.hid ((HB2.out.trans (But.set _ _ _)).trans hb)
            have HV3 := Lib.hid hr
            clear hb hr
            go_wp2_with fail
            go_ret
            refine ⟨congrArg (fun s => Ending.returned (Value.string (bs s))) HRP.out.1.symm, HB3.out, ?_⟩
            rw [HS.out, HRP.out.2, show (q || !nextB 62 (l1.drop k) || !false) = (true || !nextB 62 (l1.drop k)) by simp]
            exact HV3.out
          · go_wp2_with fail
            refine (CW.out q _ HV2.out).mono ?_
            rintro _ V3 ⟨_, rfl, hb, hr⟩
            have HB3 := Lib.hid (HB2.out.trans hb)
            have HV3 := Lib.hid hr
            clear hb hr
            go_wp2_with fail
            go_ret
            refine ⟨congrArg (fun s => Ending.returned (Value.string (bs s))) HRP.out.1.symm, HB3.out, ?_⟩
            rw [HS.out, HRP.out.2, show (q || !nextB 62 (l1.drop k) || !true) = (q || !nextB 62 (l1.drop k)) by simp]
            exact HV3.out
        · have HNX := Lib.hid (show (l1.take (k + 1)).all inB = true by
            obtain ⟨h3, h4⟩ := at_list HX.out k hlt
            exact all_snoc h3 HALL.out (by rw [h4]; unfold inB; rw [hc1, hc2]; rfl))
          clear hc1 hc2
          go_wp2_with fail
          refine (C1.out _).mono ?_
          rintro e w' ⟨rfl, rfl⟩
          go_wp2_with fail
          refine (C2.out _).mono ?_
          rintro e w' ⟨rfl, rfl⟩
          go_wp2_with fail
          exact ⟨⟨k + 1, by go_num, by omega, HNX.out⟩, by simp [intOf]; omega⟩
      · have HNX := Lib.hid (show (l1.take (k + 1)).all inB = true by
          obtain ⟨h3, h4⟩ := at_list HX.out k hlt
          exact all_snoc h3 HALL.out (by rw [h4]; unfold inB; rw [hc1]; rfl))
        clear hc1 hc2
        go_wp2_with fail
        refine (C1.out _).mono ?_
        rintro e w' ⟨rfl, rfl⟩
        go_wp2_with fail
        exact ⟨⟨k + 1, by go_num, by omega, HNX.out⟩, by simp [intOf]; omega⟩
    · have i2 : decide ((k : Int) < (X.size : Int)) = false := decide_eq_false (by omega)
      have HRP := Lib.hid (HEXIT.out (.inl (by omega)))
      go_wp2_with fail
      refine (CT.out _ HV.out).mono ?_
      rintro _ V2 ⟨rfl, hb, hr⟩
      have HB2 := Lib.hid (HB.out.trans hb)
      have HV2 := Lib.hid hr
      clear hb hr
      go_wp2_with fail
      refine (CNM.out _).mono ?_
      rintro _ _ ⟨bx, rfl, _, rfl⟩
      obtain ⟨⟨d0, d1⟩, g0, g1⟩ := HV2.out.row
      rw [bs_list]
      obtain ⟨ok, hok⟩ : ∃ o, nameOk (l1.take k) = o := ⟨_, rfl⟩
      have HS := Lib.hid (show nameOk (run inB l1) = ok by rw [HRP.out.1, hok])
      rw [hok]
      clear hok
      cases ok
      · go_wp2_with fail
        refine (CW.out true _ (HV2.out.setB true)).mono ?_
        rintro _ V3 ⟨_, rfl, hb, hr⟩
        have HB3 := Lib.hid ((HB2.out.trans (But.set _ _ _)).trans hb)
        have HV3 := Lib.hid hr
        clear hb hr
        go_wp2_with fail
        go_ret
        refine ⟨congrArg (fun s => Ending.returned (Value.string (bs s))) HRP.out.1.symm, HB3.out, ?_⟩
        rw [HS.out, HRP.out.2, show (q || !nextB 62 (l1.drop k) || !false) = (true || !nextB 62 (l1.drop k)) by simp]
        exact HV3.out
      · go_wp2_with fail
        refine (CW.out q _ HV2.out).mono ?_
        rintro _ V3 ⟨_, rfl, hb, hr⟩
        have HB3 := Lib.hid (HB2.out.trans hb)
        have HV3 := Lib.hid hr
        clear hb hr
        go_wp2_with fail
        go_ret
        refine ⟨congrArg (fun s => Ending.returned (Value.string (bs s))) HRP.out.1.symm, HB3.out, ?_⟩
        rw [HS.out, HRP.out.2, show (q || !nextB 62 (l1.drop k) || !true) = (q || !nextB 62 (l1.drop k)) by simp]
        exact HV3.out
theorem rf_name (b : Nat) (l : List UInt8) (hl : l.length ≤ 1000000) (q : Bool) (w : World) (h : RfAt w b l q) :
    Calls Tryz.prog 29 #[.pointer (some ⟨b, 0, none⟩)] w (RfPost w b (.string (bs (nmS l))) (nmR l) (q || nmB l || !nameOk (nmS l))) := by
  cases hq : nextB 60 l
  · exact rf_name_plain b l hl hq q w h
  · exact rf_name_quoted b l hl hq q w h
end Go.Proofs.YtgllbagmmpicaaaGreatDoor.Px
