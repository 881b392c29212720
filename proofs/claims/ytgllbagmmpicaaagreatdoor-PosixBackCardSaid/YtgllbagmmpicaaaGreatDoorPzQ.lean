/- The functions short, quote and text of posix. -/
import Derived.Test.YtgllbagmmpicaaaGreatDoorPzP
import Derived.Test.YtgllbagmmpicaaaGreatDoorPrR
import Derived.Deep.QuietTactic
import Derived.BigQuiet
namespace Go.Proofs.YtgllbagmmpicaaaGreatDoor.Px
open Go.RowKit
open Civ
open Off (dec two printN printO bs_add)

theorem short_any (x : Int) (h0 : -604799 ≤ x) (h1 : x ≤ 604799) (w : World) (hE : EnvAt w) :
    Calls Tryz.prog 34 #[.int .i64 x] w fun e w' => e = .returned (.string (bs (shortL x))) ∧ Below w.heap.size w w' := by
  have CP := Lib.hid (fun w hE => Off.print_any x h0 h1 w hE)
  have CT := Lib.hid (fun s w => Tryz.strings_TrimSuffix s ⟨#[58, 48, 48]⟩ w)
  have HT := Lib.hid (trim_two x h0 h1)
  have hl : (printO x).length ≤ 1000 := by
    unfold printO
    split
    · rw [List.length_cons]; have := Off.printN_len (-x).toNat; omega
    · have := Off.printN_len x.toNat; omega
  have HZ1 := Lib.hid (show (bs (printO x)).size ≤ 9223372036854775807 by rw [bs_size]; omega)
  have HZ2 := Lib.hid (show (bs (Lib.trimSuffix (printO x) [58, 48, 48])).size ≤ 9223372036854775807 by
    rw [bs_size]; unfold Lib.trimSuffix; split
    · rw [List.length_take]; omega
    · omega)
  obtain ⟨s, hs⟩ : ∃ s, printO x = s := ⟨_, rfl⟩
  rw [hs] at CP HT HZ1 HZ2
  have HE := Lib.hid hE
  clear hs hE hl h0 h1
  go_enter Tryz.func34, Tryz.ntmps34
  go_wp2_with fail
  refine (CP.out _ HE.out).mono ?_
  rintro _ V ⟨rfl, hb⟩
  have HB := Lib.hid hb
  clear hb
  go_wp2_with fail
  refine (CT.out _ _ HZ1.out).mono ?_
  rintro _ _ ⟨rfl, rfl⟩
  go_wp2_with fail
  refine (CT.out _ _ HZ2.out).mono ?_
  rintro _ _ ⟨rfl, rfl⟩
  go_wp2_with fail
  go_ret
  exact ⟨congrArg (fun l => Ending.returned (Value.string (bs l))) HT.out, HB.out⟩
def oth12 : ByteArray := ⟨#[48, 49, 50, 51, 52, 53, 54, 55, 56, 57, 43, 45]⟩
theorem contains_oth (c : UInt8) : oth12.data.toList.contains c = othC c :=
  eq_of_beq (every_byte (fun c => oth12.data.toList.contains c == othC c) (by kernel_rfl) c)
theorem in_ascii {l : List UInt8} (h : l.all inB = true) (j : Nat) (b : UInt8) (hb : l[j]? = some b) : b.toNat < 128 :=
  (index_in b (List.all_eq_true.1 h b (List.mem_of_getElem? hb))).1
theorem index_any (chars : List UInt8) : ∀ l : List UInt8, decide (0 ≤ Lib.indexAny l chars) = l.any (chars.contains ·)
  | [] => rfl
  | b :: l => by
    have ih := index_any chars l
    have hge := Lib.indexAny_ge chars l
    unfold Lib.indexAny
    rw [List.any_cons]
    by_cases h : chars.contains b = true
    · rw [if_pos h, h]; rfl
    · have h' : chars.contains b = false := by simpa using h
      rw [if_neg h, h', Bool.false_or, ← ih]
      by_cases h2 : Lib.indexAny l chars = -1
      · rw [h2]; rfl
      · rw [if_neg (by simpa using h2)]
        rw [decide_eq_true (show (0 : Int) ≤ Lib.indexAny l chars by omega)]
        exact decide_eq_true (by omega)
theorem letters_not {l : List UInt8} (h : l.all inB = true) : Lib.containsAny l oth12.data.toList = !l.all letC := by
  unfold Lib.containsAny
  rw [index_any]
  induction l with
  | nil => rfl
  | cons a r ih =>
    rw [List.all_cons, Bool.and_eq_true] at h
    have ha := h.1
    rw [List.any_cons, List.all_cons, ih h.2, contains_oth]
    have hd := every_byte (fun c => !(inB c) || (othC c == !letC c)) (by kernel_rfl) a
    rw [ha] at hd
    have hd2 : othC a = !letC a := by simpa using hd
    rw [hd2]
    cases letC a <;> cases r.all letC <;> rfl
theorem quote_any (l : List UInt8) (hl : l.length ≤ 1000) (hin : l.all inB = true) (w : World) :
    Calls Tryz.prog 33 #[.string (bs l)] w fun e w' => e = .returned (.string (bs (quoteL l))) ∧ Below w.heap.size w w' := by
  have CC := Lib.hid (fun w => Tryz.strings_ContainsAny_laid (bs l) oth12 w (by rw [bs_size]; omega) (by decide) (in_ascii hin) (ascii_of_all (by decide)))
  rw [bs_list, letters_not hin] at CC
  have hz := bs_size l
  have HQ := Lib.hid (show (⟨#[60]⟩ : ByteArray) ++ bs l ++ ⟨#[62]⟩ = bs (60 :: l ++ [62]) by
    rw [show (⟨#[60]⟩ : ByteArray) = bs [60] from rfl, show (⟨#[62]⟩ : ByteArray) = bs [62] from rfl, bs_add, bs_add]; rfl)
  unfold quoteL
  obtain ⟨X, hX⟩ : ∃ X, bs l = X := ⟨_, rfl⟩
  rw [hX] at CC hz HQ
  have k1 : (⟨#[60]⟩ : ByteArray).size = 1 := rfl
  have k2 : (⟨#[62]⟩ : ByteArray).size = 1 := rfl
  have hz2 : X.size ≤ 1000 := by omega
  have HX := Lib.hid hX
  cases hb : l.all letC
  · rw [hb] at CC
    rw [hX, if_neg (by decide)]
    clear hz hX hin hb
    go_enter Tryz.func33, Tryz.ntmps33
    go_wp2_with fail
    refine (CC.out _).mono ?_
    rintro _ V ⟨rfl, hb⟩
    have HB := Lib.hid hb
    clear hb
    go_wp2_with fail
    go_ret
    exact ⟨congrArg (fun s => Ending.returned (Value.string s)) HQ.out, HB.out⟩
  · rw [hb] at CC
    rw [hX, if_pos rfl, hX]
    clear hz hX hin hb
    go_enter Tryz.func33, Tryz.ntmps33
    go_wp2_with fail
    refine (CC.out _).mono ?_
    rintro _ V ⟨rfl, hb⟩
    have HB := Lib.hid hb
    clear hb
    go_wp2_with fail
    go_ret
    exact ⟨rfl, HB.out⟩
theorem itoa_dec (x : Int) (h0 : 0 ≤ x) (h1 : x < 1000) (w : World) (hE : EnvAt w) :
    Calls Tryz.prog 71 #[.int .i64 x] w fun e w' => e = .returned (.string (bs (dec x.toNat))) ∧ Below w.heap.size w w' := by
  refine (itoa_any x (by omega) (by omega) w hE).mono ?_
  rintro e w' ⟨rfl, h⟩
  rw [Lib.itoa, if_neg (by omega), Off.dec_lib (by omega)]
  exact ⟨rfl, h⟩
theorem itoa_small (x : Int) (h0 : 0 ≤ x) (h1 : x < 100) (w : World) :
    Calls Tryz.prog 71 #[.int .i64 x] w fun e w' => e = .returned (.string (bs (dec x.toNat))) ∧ w' = w := by
  obtain ⟨n, rfl⟩ := Int.eq_ofNat_of_zero_le h0
  refine (Tryz.strconv_Itoa_small n (by omega) w).mono ?_
  rintro e w' ⟨rfl, rfl⟩
  rw [Int.toNat_natCast, Off.dec_lib (by omega)]
  exact ⟨rfl, rfl⟩
set_option maxHeartbeats 2000000 in
set_option maxRecDepth 100000 in
theorem text_any (k d m x s : Int) (hok : Dt.ok ⟨k, d, m, x, s⟩ = true) (w : World) (hE : EnvAt w) :
    Calls Tryz.prog 35 #[.agg #[.int .i64 k, .int .i64 d, .int .i64 m, .int .i64 x, .int .i64 s]] w fun e w' => e = .returned (.string (bs (textL ⟨k, d, m, x, s⟩))) ∧ Below w.heap.size w w' := by
  rw [Dt.ok_iff] at hok
  dsimp only at hok
  obtain ⟨⟨s0, s1⟩, hk⟩ := hok
  have hd0 : 0 ≤ d ∧ d ≤ 365 := by omega
  have CD := Lib.hid (fun w hE => itoa_dec d (by omega) (by omega) w hE)
  have CS := Lib.hid (fun w hE => short_any s s0 s1 w hE)
  have HA := Lib.hid ((Below.refl _ w).alloc (Nat.le_refl _) (.cells #[.int .i64 k, .int .i64 d, .int .i64 m, .int .i64 x, .int .i64 s] 23))
  have HR := Lib.hid (rowAt_alloc w #[.int .i64 k, .int .i64 d, .int .i64 m, .int .i64 x, .int .i64 s] 23)
  have HE := Lib.hid hE
  have z1 := Off.dec_size d.toNat
  have z2 : (bs (shortL s)).size ≤ 10 := by rw [bs_size]; exact shortL_len s
  clear hE
  have b74 : (⟨#[74]⟩ : ByteArray).size = 1 := rfl
  have b77 : (⟨#[77]⟩ : ByteArray).size = 1 := rfl
  have b46 : (⟨#[46]⟩ : ByteArray).size = 1 := rfl
  have b47 : (⟨#[47]⟩ : ByteArray).size = 1 := rfl
  rcases hk with ⟨rfl, _, _, rfl, rfl⟩ | ⟨rfl, _, _, rfl, rfl⟩ | ⟨rfl, m0, m1, x0, x1, _, _⟩
  · by_cases hs : s = 7200
    · subst hs
      have HT := Lib.hid (show (⟨#[74]⟩ : ByteArray) ++ bs (dec d.toNat) = bs (textL ⟨1, d, 0, 0, 7200⟩) by
        rw [show (⟨#[74]⟩ : ByteArray) = bs [74] from rfl, bs_add]
        unfold textL
        rw [if_pos rfl, if_pos rfl]
        simp)
      obtain ⟨D, hD⟩ : ∃ D, bs (dec d.toNat) = D := ⟨_, rfl⟩
      rw [hD] at CD HT z1
      clear CS
      clear hD
      go_enter Tryz.func35, Tryz.ntmps35
      go_wp2_with fail
      refine (CD.out _ (HE.out.keep HA.out)).mono ?_
      rintro _ V ⟨rfl, hb⟩
      have hr := HR.out.keep hb
      have c0 := hr.2 0
      have c2 := hr.2 2
      have c3 := hr.2 3
      have c4 := hr.2 4
      have HB := Lib.hid (HA.out.trans (hb.mono HA.out.size))
      have HRV := Lib.hid hr
      clear hb hr
      go_wp2_with fail
      go_ret
      exact ⟨congrArg (fun s => Ending.returned (Value.string s)) HT.out, HB.out⟩
    · skip
      have HT := Lib.hid (show ((⟨#[74]⟩ : ByteArray) ++ bs (dec d.toNat)) ++ ⟨#[47]⟩ ++ bs (shortL s) = bs (textL ⟨1, d, 0, 0, s⟩) by
        rw [show (⟨#[74]⟩ : ByteArray) = bs [74] from rfl, show (⟨#[47]⟩ : ByteArray) = bs [47] from rfl, bs_add, bs_add, bs_add]
        unfold textL
        rw [if_pos rfl, if_neg hs]
        simp)
      obtain ⟨D, hD⟩ : ∃ D, bs (dec d.toNat) = D := ⟨_, rfl⟩
      rw [hD] at CD HT z1
      obtain ⟨S, hS⟩ : ∃ D, bs (shortL s) = D := ⟨_, rfl⟩
      rw [hS] at CS HT z2
      have t0 : (s == 7200) = false := by rw [beq_eq_false_iff_ne]; exact hs
      clear hS hs
      clear hD
      go_enter Tryz.func35, Tryz.ntmps35
      go_wp2_with fail
      refine (CD.out _ (HE.out.keep HA.out)).mono ?_
      rintro _ V ⟨rfl, hb⟩
      have hr := HR.out.keep hb
      have c0 := hr.2 0
      have c2 := hr.2 2
      have c3 := hr.2 3
      have c4 := hr.2 4
      have HB := Lib.hid (HA.out.trans (hb.mono HA.out.size))
      have HRV := Lib.hid hr
      clear hb hr
      go_wp2_with fail
      refine (CS.out _ (HE.out.keep HB.out)).mono ?_
      rintro _ V9 ⟨rfl, hb⟩
      have HB9 := Lib.hid (HB.out.trans (hb.mono HB.out.size))
      clear hb
      go_wp2_with fail
      go_ret
      exact ⟨congrArg (fun s => Ending.returned (Value.string s)) HT.out, HB9.out⟩
  · by_cases hs : s = 7200
    · subst hs
      have HT := Lib.hid (show bs (dec d.toNat) = bs (textL ⟨2, d, 0, 0, 7200⟩) by
        skip
        unfold textL
        rw [if_neg (show ¬ (2 : Int) = 1 by decide), if_neg (show ¬ (2 : Int) = 3 by decide), if_pos rfl]
        simp)
      obtain ⟨D, hD⟩ : ∃ D, bs (dec d.toNat) = D := ⟨_, rfl⟩
      rw [hD] at CD HT z1
      clear CS
      clear hD
      go_enter Tryz.func35, Tryz.ntmps35
      go_wp2_with fail
      refine (CD.out _ (HE.out.keep HA.out)).mono ?_
      rintro _ V ⟨rfl, hb⟩
      have hr := HR.out.keep hb
      have c0 := hr.2 0
      have c2 := hr.2 2
      have c3 := hr.2 3
      have c4 := hr.2 4
      have HB := Lib.hid (HA.out.trans (hb.mono HA.out.size))
      have HRV := Lib.hid hr
      clear hb hr
      go_wp2_with fail
      go_ret
      exact ⟨congrArg (fun s => Ending.returned (Value.string s)) HT.out, HB.out⟩
    · skip
      have HT := Lib.hid (show (bs (dec d.toNat)) ++ ⟨#[47]⟩ ++ bs (shortL s) = bs (textL ⟨2, d, 0, 0, s⟩) by
        rw [show (⟨#[47]⟩ : ByteArray) = bs [47] from rfl, bs_add, bs_add]
        unfold textL
        rw [if_neg (show ¬ (2 : Int) = 1 by decide), if_neg (show ¬ (2 : Int) = 3 by decide), if_neg hs]
        simp)
      obtain ⟨D, hD⟩ : ∃ D, bs (dec d.toNat) = D := ⟨_, rfl⟩
      rw [hD] at CD HT z1
      obtain ⟨S, hS⟩ : ∃ D, bs (shortL s) = D := ⟨_, rfl⟩
      rw [hS] at CS HT z2
      have t0 : (s == 7200) = false := by rw [beq_eq_false_iff_ne]; exact hs
      clear hS hs
      clear hD
      go_enter Tryz.func35, Tryz.ntmps35
      go_wp2_with fail
      refine (CD.out _ (HE.out.keep HA.out)).mono ?_
      rintro _ V ⟨rfl, hb⟩
      have hr := HR.out.keep hb
      have c0 := hr.2 0
      have c2 := hr.2 2
      have c3 := hr.2 3
      have c4 := hr.2 4
      have HB := Lib.hid (HA.out.trans (hb.mono HA.out.size))
      have HRV := Lib.hid hr
      clear hb hr
      go_wp2_with fail
      refine (CS.out _ (HE.out.keep HB.out)).mono ?_
      rintro _ V9 ⟨rfl, hb⟩
      have HB9 := Lib.hid (HB.out.trans (hb.mono HB.out.size))
      clear hb
      go_wp2_with fail
      go_ret
      exact ⟨congrArg (fun s => Ending.returned (Value.string s)) HT.out, HB9.out⟩
  · have z3 := Off.dec_size m.toNat
    have z4 := Off.dec_size x.toNat
    by_cases hs : s = 7200
    · subst hs
      have HT := Lib.hid (show (⟨#[77]⟩ : ByteArray) ++ bs (dec m.toNat) ++ ⟨#[46]⟩ ++ bs (dec x.toNat) ++ ⟨#[46]⟩ ++ bs (dec d.toNat) = bs (textL ⟨3, d, m, x, 7200⟩) by
        rw [show (⟨#[77]⟩ : ByteArray) = bs [77] from rfl, show (⟨#[46]⟩ : ByteArray) = bs [46] from rfl, bs_add, bs_add, bs_add, bs_add, bs_add]
        unfold textL
        rw [if_neg (show ¬ (3 : Int) = 1 by decide), if_pos rfl, if_pos rfl]
        simp)
      obtain ⟨D, hD⟩ : ∃ D, bs (dec d.toNat) = D := ⟨_, rfl⟩
      rw [hD] at CD HT z1
      clear CS
      clear hD
      go_enter Tryz.func35, Tryz.ntmps35
      go_wp2_with fail
      refine (CD.out _ (HE.out.keep HA.out)).mono ?_
      rintro _ V ⟨rfl, hb⟩
      have hr := HR.out.keep hb
      have c0 := hr.2 0
      have c2 := hr.2 2
      have c3 := hr.2 3
      have c4 := hr.2 4
      have HB := Lib.hid (HA.out.trans (hb.mono HA.out.size))
      have HRV := Lib.hid hr
      clear hb hr
      go_wp2_with fail
      go_quiet ((go_at_call 71; exact Calls.quiet_of_same (itoa_small _ (by omega) (by omega) _)))
      have HB2 := Lib.hid (Civ.below_drewN HB.out nq)
      go_wp2_with fail
      go_ret
      exact ⟨congrArg (fun s => Ending.returned (Value.string s)) HT.out, HB2.out⟩
    · skip
      have HT := Lib.hid (show ((⟨#[77]⟩ : ByteArray) ++ bs (dec m.toNat) ++ ⟨#[46]⟩ ++ bs (dec x.toNat) ++ ⟨#[46]⟩ ++ bs (dec d.toNat)) ++ ⟨#[47]⟩ ++ bs (shortL s) = bs (textL ⟨3, d, m, x, s⟩) by
        rw [show (⟨#[77]⟩ : ByteArray) = bs [77] from rfl, show (⟨#[46]⟩ : ByteArray) = bs [46] from rfl, show (⟨#[47]⟩ : ByteArray) = bs [47] from rfl, bs_add, bs_add, bs_add, bs_add, bs_add, bs_add, bs_add]
        unfold textL
        rw [if_neg (show ¬ (3 : Int) = 1 by decide), if_pos rfl, if_neg hs]
        simp)
      obtain ⟨D, hD⟩ : ∃ D, bs (dec d.toNat) = D := ⟨_, rfl⟩
      rw [hD] at CD HT z1
      obtain ⟨S, hS⟩ : ∃ D, bs (shortL s) = D := ⟨_, rfl⟩
      rw [hS] at CS HT z2
      have t0 : (s == 7200) = false := by rw [beq_eq_false_iff_ne]; exact hs
      clear hS hs
      clear hD
      go_enter Tryz.func35, Tryz.ntmps35
      go_wp2_with fail
      refine (CD.out _ (HE.out.keep HA.out)).mono ?_
      rintro _ V ⟨rfl, hb⟩
      have hr := HR.out.keep hb
      have c0 := hr.2 0
      have c2 := hr.2 2
      have c3 := hr.2 3
      have c4 := hr.2 4
      have HB := Lib.hid (HA.out.trans (hb.mono HA.out.size))
      have HRV := Lib.hid hr
      clear hb hr
      go_wp2_with fail
      go_quiet ((go_at_call 71; exact Calls.quiet_of_same (itoa_small _ (by omega) (by omega) _)))
      have HB2 := Lib.hid (Civ.below_drewN HB.out nq)
      go_wp2_with fail
      refine (CS.out _ (HE.out.keep HB2.out)).mono ?_
      rintro _ V9 ⟨rfl, hb⟩
      have HB9 := Lib.hid (HB2.out.trans (hb.mono HB2.out.size))
      clear hb
      go_wp2_with fail
      go_ret
      exact ⟨congrArg (fun s => Ending.returned (Value.string s)) HT.out, HB9.out⟩
end Go.Proofs.YtgllbagmmpicaaaGreatDoor.Px
