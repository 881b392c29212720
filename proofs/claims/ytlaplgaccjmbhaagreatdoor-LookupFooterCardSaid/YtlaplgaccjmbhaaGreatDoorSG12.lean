/- TZ strings, the plain laws: the string of a TZ. No program in sight. The functions short, quote and text of posix. The function posix.Print: the string of a TZ. -/
import Derived.Test.YtlaplgaccjmbhaaGreatDoorSG8
import Derived.Test.YtlaplgaccjmbhaaGreatDoorSG7
import Derived.Lib.IndexAny
import Derived.Test.YtlaplgaccjmbhaaGreatDoorSG9
import Derived.Deep.QuietTactic
import Derived.BigQuiet
import Derived.Test.YtlaplgaccjmbhaaGreatDoorSG5
import Derived.Deep.RegionWith
import Derived.Deep.RegionHeld3
import Derived.Deep.DeepCutAuto
namespace Go.Proofs.YtlaplgaccjmbhaaGreatDoor.Px
open Off (dec two printN printO)
/-- an amount of time from 0 on, without :00 at its end -/
def shortN (n : Nat) : List UInt8 := dec (n / 3600) ++ (if n % 60 = 0 then (if n / 60 % 60 = 0 then [] else 58 :: two (n / 60 % 60)) else 58 :: two (n / 60 % 60) ++ 58 :: two (n % 60))
def shortL (x : Int) : List UInt8 := if x < 0 then 45 :: shortN (-x).toNat else shortN x.toNat
def quoteL (s : List UInt8) : List UInt8 := if s.all letC then s else 60 :: s ++ [62]
def textL (d : Dt) : List UInt8 :=
  (if d.kind = 1 then 74 :: dec d.day.toNat else if d.kind = 3 then 77 :: dec d.month.toNat ++ 46 :: dec d.week.toNat ++ 46 :: dec d.day.toNat else dec d.day.toNat) ++
    (if d.sec = 7200 then [] else 47 :: shortL d.sec)
/-- the string of a right TZ -/
def printL (p : Pos) : List UInt8 :=
  if p.dst.data.toList.isEmpty then quoteL p.std.data.toList ++ shortL (-p.stdOff)
  else quoteL p.std.data.toList ++ shortL (-p.stdOff) ++ quoteL p.dst.data.toList ++ (if p.dstOff = p.stdOff + 3600 then [] else shortL (-p.dstOff)) ++ 44 :: textL p.start ++ 44 :: textL p.stop
def printP (p : Pos) : List UInt8 × Int := if p.ok then (printL p, 0) else ([], 2)
theorem dec_all (n : Nat) (h : n < 1000) : (dec n).all Off.digQ = true := by
  rw [← Off.dec_lib h]; exact (dec_digits n).1
theorem suffix_mem {l : List UInt8} (h : Lib.hasSuffix l [58, 48, 48] = true) : (58 : UInt8) ∈ l := by
  unfold Lib.hasSuffix at h
  rw [List.isSuffixOf_iff_suffix] at h
  exact h.subset (by simp)
theorem suffix_yes (a : List UInt8) : Lib.hasSuffix (a ++ [58, 48, 48]) [58, 48, 48] = true := by
  unfold Lib.hasSuffix
  rw [List.isSuffixOf_iff_suffix]
  exact List.suffix_append _ _
theorem suffix_no (a : List UInt8) (x y : UInt8) (h : ¬ (x = 48 ∧ y = 48)) : Lib.hasSuffix (a ++ [58, x, y]) [58, 48, 48] = false := by
  rw [Bool.eq_false_iff]
  intro hh
  unfold Lib.hasSuffix at hh
  rw [List.isSuffixOf_iff_suffix] at hh
  obtain ⟨t, ht⟩ := hh
  have := (List.append_inj' ht rfl).2
  simp at this
  exact h ⟨this.1.symm, this.2.symm⟩
theorem two_zero (n : Nat) (h : n < 60) : (n = 0 ∧ two n = [48, 48]) ∨ (n ≠ 0 ∧ ∃ x y, two n = [x, y] ∧ ¬ (x = 48 ∧ y = 48)) := by
  by_cases h0 : n = 0
  · left; subst h0; exact ⟨rfl, rfl⟩
  · right
    refine ⟨h0, _, _, rfl, ?_⟩
    rintro ⟨h1, h2⟩
    have h1 := congrArg UInt8.toNat h1
    have h2 := congrArg UInt8.toNat h2
    rw [u8_nat (by omega), show (48 : UInt8).toNat = 48 from rfl] at h1 h2
    omega
/-- a string with :00 at its end, once, or without it -/
theorem print_short (x : Int) (h0 : -604799 ≤ x) (h1 : x ≤ 604799) :
    (printO x = shortL x ∧ Lib.hasSuffix (shortL x) [58, 48, 48] = false) ∨ (printO x = shortL x ++ [58, 48, 48] ∧ Lib.hasSuffix (shortL x) [58, 48, 48] = false ∧ 1 ≤ (shortL x).length) := by
  have key : ∀ (n : Nat) (g : List UInt8), n ≤ 604799 → (58 : UInt8) ∉ g → (g ++ printN n = g ++ shortN n ∧ Lib.hasSuffix (g ++ shortN n) [58, 48, 48] = false) ∨ (g ++ printN n = g ++ shortN n ++ [58, 48, 48] ∧ Lib.hasSuffix (g ++ shortN n) [58, 48, 48] = false ∧ 1 ≤ (g ++ shortN n).length) := by
    intro n g hn hg
    have hd := dec_all (n / 3600) (by omega)
    unfold printN shortN
    by_cases hs : n % 60 = 0
    · rw [if_pos hs, if_pos hs, List.append_nil]
      rcases two_zero (n / 60 % 60) (by omega) with ⟨hm, e⟩ | ⟨hm, a, b, e, hab⟩
      · right
        rw [if_pos hm, e, List.append_nil]
        refine ⟨by simp, ?_, ?_⟩
        · rw [Bool.eq_false_iff]
          intro h
          rcases List.mem_append.1 (suffix_mem h) with h | h
          · exact hg h
          · have := List.all_eq_true.1 hd _ h
            cases this
        · have := dec_digits (n / 3600)
          rw [Off.dec_lib (by omega)] at this
          have := List.length_pos_iff.2 this.2.1
          rw [List.length_append]; omega
      · left
        rw [if_neg hm, e]
        refine ⟨rfl, ?_⟩
        have := suffix_no (g ++ dec (n / 3600)) a b hab
        rwa [List.append_assoc] at this
    · rw [if_neg hs, if_neg hs]
      rcases two_zero (n % 60) (by omega) with ⟨hm, e⟩ | ⟨hm, a, b, e, hab⟩
      · exact absurd hm hs
      · left
        rw [e]
        refine ⟨by simp, ?_⟩
        have := suffix_no (g ++ dec (n / 3600) ++ 58 :: two (n / 60 % 60)) a b hab
        simpa using this
  unfold printO shortL
  by_cases h : x < 0
  · rw [if_pos h, if_pos h]
    exact key (-x).toNat [45] (by omega) (by decide)
  · rw [if_neg h, if_neg h]
    exact key x.toNat [] (by omega) (by decide)
theorem trim_no {l : List UInt8} (h : Lib.hasSuffix l [58, 48, 48] = false) : Lib.trimSuffix l [58, 48, 48] = l := by unfold Lib.trimSuffix; rw [h, if_neg (by decide)]
theorem trim_yes (a : List UInt8) : Lib.trimSuffix (a ++ [58, 48, 48]) [58, 48, 48] = a := by
  unfold Lib.trimSuffix
  rw [suffix_yes, if_pos rfl]
  simp
theorem trim_two (x : Int) (h0 : -604799 ≤ x) (h1 : x ≤ 604799) : Lib.trimSuffix (Lib.trimSuffix (printO x) [58, 48, 48]) [58, 48, 48] = shortL x := by
  rcases print_short x h0 h1 with ⟨e, h⟩ | ⟨e, h, _⟩
  · rw [e, trim_no h, trim_no h]
  · rw [e, trim_yes, trim_no h]
theorem shortN_len (n : Nat) : (shortN n).length ≤ 9 := by
  unfold shortN
  have := Off.dec_len (n / 3600)
  have h2 : ∀ n, (two n).length = 2 := fun _ => rfl
  split
  · split <;> simp [h2] <;> omega
  · simp [h2]; omega
theorem shortL_len (x : Int) : (shortL x).length ≤ 10 := by
  unfold shortL
  split
  · rw [List.length_cons]; have := shortN_len (-x).toNat; omega
  · have := shortN_len x.toNat; omega
theorem quoteL_len (s : List UInt8) : (quoteL s).length ≤ s.length + 2 := by
  unfold quoteL
  split
  · omega
  · simp
theorem textL_len (d : Dt) : (textL d).length ≤ 23 := by
  unfold textL
  have a1 := Off.dec_len d.day.toNat
  have a2 := Off.dec_len d.month.toNat
  have a3 := Off.dec_len d.week.toNat
  have a4 := shortL_len d.sec
  rw [List.length_append]
  have b1 : (if d.kind = 1 then 74 :: dec d.day.toNat else if d.kind = 3 then 77 :: dec d.month.toNat ++ 46 :: dec d.week.toNat ++ 46 :: dec d.day.toNat else dec d.day.toNat).length ≤ 12 := by
    split
    · simp; omega
    · split
      · simp; omega
      · omega
  have b2 : (if d.sec = 7200 then [] else 47 :: shortL d.sec).length ≤ 11 := by
    split
    · simp
    · simp; omega
  omega
end Go.Proofs.YtlaplgaccjmbhaaGreatDoor.Px
namespace Go.Proofs.YtlaplgaccjmbhaaGreatDoor.Px
open Go.RowKit
open Civ
open Off (dec two printN printO bs_add)
theorem short_any (x : Int) (h0 : -604799 ≤ x) (h1 : x ≤ 604799) (w : World) (hE : EnvAt w) :
    Calls Tryz.prog 87 #[.int .i64 x] w fun e w' => e = .returned (.string (bs (shortL x))) ∧ Below w.heap.size w w' := by
  have CP := Lib.hid (fun w hE => Off.print_any x h0 h1 w hE)
  have CT := Lib.hid (fun s w => Tryz.strings_TrimSuffix s ⟨#[58, 48, 48]⟩ w)
  have HT := Lib.hid (trim_two x h0 h1)
  have hl : (printO x).length ≤ 1000 := by
    unfold printO
    split
    · rw [List.length_cons]; have := Off.printN_len (-x).toNat; omega
    · have := Off.printN_len x.toNat; omega
  have HZ1 := Lib.hid (show (bs (printO x)).size ≤ 9223372036854775807 by rw [bs_size]; omega)
  have HZ2 := Lib.hid (show (bs (Lib.trimSuffix (printO x) [58, 48, 48])).size ≤ 9223372036854775807 by
    rw [bs_size]; unfold Lib.trimSuffix; split
    · rw [List.length_take]; omega
    · omega)
  obtain ⟨s, hs⟩ : ∃ s, printO x = s := ⟨_, rfl⟩
  rw [hs] at CP HT HZ1 HZ2
  have HE := Lib.hid hE
  clear hs hE hl h0 h1
  go_enter Tryz.func87, Tryz.ntmps87
  go_wp2_with fail
  refine (CP.out _ HE.out).mono ?_
  rintro _ V ⟨rfl, hb⟩
  have HB := Lib.hid hb
  clear hb
  go_wp2_with fail
  refine (CT.out _ _ HZ1.out).mono ?_
  rintro _ _ ⟨rfl, rfl⟩
  go_wp2_with fail
  refine (CT.out _ _ HZ2.out).mono ?_
  rintro _ _ ⟨rfl, rfl⟩
  go_wp2_with fail
  go_ret
  exact ⟨congrArg (fun l => Ending.returned (Value.string (bs l))) HT.out, HB.out⟩
def oth12 : ByteArray := ⟨#[48, 49, 50, 51, 52, 53, 54, 55, 56, 57, 43, 45]⟩
theorem contains_oth (c : UInt8) : oth12.data.toList.contains c = othC c :=
  eq_of_beq (every_byte (fun c => oth12.data.toList.contains c == othC c) (by kernel_rfl) c)
theorem in_ascii {l : List UInt8} (h : l.all inB = true) (j : Nat) (b : UInt8) (hb : l[j]? = some b) : b.toNat < 128 :=
  (index_in b (List.all_eq_true.1 h b (List.mem_of_getElem? hb))).1
theorem index_any (chars : List UInt8) : ∀ l : List UInt8, decide (0 ≤ Lib.indexAny l chars) = l.any (chars.contains ·)
  | [] => rfl
  | b :: l => by
    have ih := index_any chars l
    have hge := Lib.indexAny_ge chars l
    unfold Lib.indexAny
    rw [List.any_cons]
    by_cases h : chars.contains b = true
    · rw [if_pos h, h]; rfl
    · have h' : chars.contains b = false := by simpa using h
      rw [if_neg h, h', Bool.false_or, ← ih]
      by_cases h2 : Lib.indexAny l chars = -1
      · rw [h2]; rfl
      · rw [if_neg (by simpa using h2)]
        rw [decide_eq_true (show (0 : Int) ≤ Lib.indexAny l chars by omega)]
        exact decide_eq_true (by omega)
theorem letters_not {l : List UInt8} (h : l.all inB = true) : Lib.containsAny l oth12.data.toList = !l.all letC := by
  unfold Lib.containsAny
  rw [index_any]
  induction l with
  | nil => rfl
  | cons a r ih =>
    rw [List.all_cons, Bool.and_eq_true] at h
    have ha := h.1
    rw [List.any_cons, List.all_cons, ih h.2, contains_oth]
    have hd := every_byte (fun c => !(inB c) || (othC c == !letC c)) (by kernel_rfl) a
    rw [ha] at hd
    have hd2 : othC a = !letC a := by simpa using hd
    rw [hd2]
    cases letC a <;> cases r.all letC <;> rfl
theorem quote_any (l : List UInt8) (hl : l.length ≤ 1000) (hin : l.all inB = true) (w : World) :
    Calls Tryz.prog 86 #[.string (bs l)] w fun e w' => e = .returned (.string (bs (quoteL l))) ∧ Below w.heap.size w w' := by
  have CC := Lib.hid (fun w => Tryz.strings_ContainsAny_laid (bs l) oth12 w (by rw [bs_size]; omega) (by decide) (in_ascii hin) (ascii_of_all (by decide)))
  rw [bs_list, letters_not hin] at CC
  have hz := bs_size l
  have HQ := Lib.hid (show (⟨#[60]⟩ : ByteArray) ++ bs l ++ ⟨#[62]⟩ = bs (60 :: l ++ [62]) by
    rw [show (⟨#[60]⟩ : ByteArray) = bs [60] from rfl, show (⟨#[62]⟩ : ByteArray) = bs [62] from rfl, bs_add, bs_add]; rfl)
  unfold quoteL
  obtain ⟨X, hX⟩ : ∃ X, bs l = X := ⟨_, rfl⟩
  rw [hX] at CC hz HQ
  have k1 : (⟨#[60]⟩ : ByteArray).size = 1 := rfl
  have k2 : (⟨#[62]⟩ : ByteArray).size = 1 := rfl
  have hz2 : X.size ≤ 1000 := by omega
  have HX := Lib.hid hX
  cases hb : l.all letC
  · rw [hb] at CC
    rw [hX, if_neg (by decide)]
    clear hz hX hin hb
    go_enter Tryz.func86, Tryz.ntmps86
    go_wp2_with fail
    refine (CC.out _).mono ?_
    rintro _ V ⟨rfl, hb⟩
    have HB := Lib.hid hb
    clear hb
    go_wp2_with fail
    go_ret
    exact ⟨congrArg (fun s => Ending.returned (Value.string s)) HQ.out, HB.out⟩
  · rw [hb] at CC
    rw [hX, if_pos rfl, hX]
    clear hz hX hin hb
    go_enter Tryz.func86, Tryz.ntmps86
    go_wp2_with fail
    refine (CC.out _).mono ?_
    rintro _ V ⟨rfl, hb⟩
    have HB := Lib.hid hb
    clear hb
    go_wp2_with fail
    go_ret
    exact ⟨rfl, HB.out⟩
theorem itoa_dec (x : Int) (h0 : 0 ≤ x) (h1 : x < 1000) (w : World) (hE : EnvAt w) :
    Calls Tryz.prog 64 #[.int .i64 x] w fun e w' => e = .returned (.string (bs (dec x.toNat))) ∧ Below w.heap.size w w' := by
  refine (itoa_any x (by omega) (by omega) w hE).mono ?_
  rintro e w' ⟨rfl, h⟩
  rw [Lib.itoa, if_neg (by omega), Off.dec_lib (by omega)]
  exact ⟨rfl, h⟩
theorem itoa_small (x : Int) (h0 : 0 ≤ x) (h1 : x < 100) (w : World) :
    Calls Tryz.prog 64 #[.int .i64 x] w fun e w' => e = .returned (.string (bs (dec x.toNat))) ∧ w' = w := by
  obtain ⟨n, rfl⟩ := Int.eq_ofNat_of_zero_le h0
  refine (Tryz.strconv_Itoa_small n (by omega) w).mono ?_
  rintro e w' ⟨rfl, rfl⟩
  rw [Int.toNat_natCast, Off.dec_lib (by omega)]
  exact ⟨rfl, rfl⟩
set_option maxHeartbeats 2000000 in
set_option maxRecDepth 100000 in
theorem text_any (k d m x s : Int) (hok : Dt.ok ⟨k, d, m, x, s⟩ = true) (w : World) (hE : EnvAt w) :
    Calls Tryz.prog 88 #[.agg #[.int .i64 k, .int .i64 d, .int .i64 m, .int .i64 x, .int .i64 s]] w fun e w' => e = .returned (.string (bs (textL ⟨k, d, m, x, s⟩))) ∧ Below w.heap.size w w' := by
  rw [Dt.ok_iff] at hok
  dsimp only at hok
  obtain ⟨⟨s0, s1⟩, hk⟩ := hok
  have hd0 : 0 ≤ d ∧ d ≤ 365 := by omega
  have CD := Lib.hid (fun w hE => itoa_dec d (by omega) (by omega) w hE)
  have CS := Lib.hid (fun w hE => short_any s s0 s1 w hE)
  have HA := Lib.hid ((Below.refl _ w).alloc (Nat.le_refl _) (.cells #[.int .i64 k, .int .i64 d, .int .i64 m, .int .i64 x, .int .i64 s] 48))
  have HR := Lib.hid (rowAt_alloc w #[.int .i64 k, .int .i64 d, .int .i64 m, .int .i64 x, .int .i64 s] 48)
  have HE := Lib.hid hE
  have z1 := Off.dec_size d.toNat
  have z2 : (bs (shortL s)).size ≤ 10 := by rw [bs_size]; exact shortL_len s
  clear hE
  have b74 : (⟨#[74]⟩ : ByteArray).size = 1 := rfl
  have b77 : (⟨#[77]⟩ : ByteArray).size = 1 := rfl
  have b46 : (⟨#[46]⟩ : ByteArray).size = 1 := rfl
  have b47 : (⟨#[47]⟩ : ByteArray).size = 1 := rfl
  rcases hk with ⟨rfl, _, _, rfl, rfl⟩ | ⟨rfl, _, _, rfl, rfl⟩ | ⟨rfl, m0, m1, x0, x1, _, _⟩
  · by_cases hs : s = 7200
    · subst hs
      have HT := Lib.hid (show (⟨#[74]⟩ : ByteArray) ++ bs (dec d.toNat) = bs (textL ⟨1, d, 0, 0, 7200⟩) by
        rw [show (⟨#[74]⟩ : ByteArray) = bs [74] from rfl, bs_add]
        unfold textL
        rw [if_pos rfl, if_pos rfl]
        simp)
      obtain ⟨D, hD⟩ : ∃ D, bs (dec d.toNat) = D := ⟨_, rfl⟩
      rw [hD] at CD HT z1
      clear CS
      clear hD
      go_enter Tryz.func88, Tryz.ntmps88
      go_wp2_with fail
      refine (CD.out _ (HE.out.keep HA.out)).mono ?_
      rintro _ V ⟨rfl, hb⟩
      have hr := HR.out.keep hb
      have c0 := hr.2 0
      have c2 := hr.2 2
      have c3 := hr.2 3
      have c4 := hr.2 4
      have HB := Lib.hid (HA.out.trans (hb.mono HA.out.size))
      have HRV := Lib.hid hr
      clear hb hr
      go_wp2_with fail
      go_ret
      exact ⟨congrArg (fun s => Ending.returned (Value.string s)) HT.out, HB.out⟩
    · skip
      have HT := Lib.hid (show ((⟨#[74]⟩ : ByteArray) ++ bs (dec d.toNat)) ++ ⟨#[47]⟩ ++ bs (shortL s) = bs (textL ⟨1, d, 0, 0, s⟩) by
        rw [show (⟨#[74]⟩ : ByteArray) = bs [74] from rfl, show (⟨#[47]⟩ : ByteArray) = bs [47] from rfl, bs_add, bs_add, bs_add]
        unfold textL
        rw [if_pos rfl, if_neg hs]
        simp)
      obtain ⟨D, hD⟩ : ∃ D, bs (dec d.toNat) = D := ⟨_, rfl⟩
      rw [hD] at CD HT z1
      obtain ⟨S, hS⟩ : ∃ D, bs (shortL s) = D := ⟨_, rfl⟩
      rw [hS] at CS HT z2
      have t0 : (s == 7200) = false := by rw [beq_eq_false_iff_ne]; exact hs
      clear hS hs
      clear hD
      go_enter Tryz.func88, Tryz.ntmps88
      go_wp2_with fail
      refine (CD.out _ (HE.out.keep HA.out)).mono ?_
      rintro _ V ⟨rfl, hb⟩
      have hr := HR.out.keep hb
      have c0 := hr.2 0
      have c2 := hr.2 2
      have c3 := hr.2 3
      have c4 := hr.2 4
      have HB := Lib.hid (HA.out.trans (hb.mono HA.out.size))
      have HRV := Lib.hid hr
      clear hb hr
      go_wp2_with fail
      refine (CS.out _ (HE.out.keep HB.out)).mono ?_
      rintro _ V9 ⟨rfl, hb⟩
      have HB9 := Lib.hid (HB.out.trans (hb.mono HB.out.size))
      clear hb
      go_wp2_with fail
      go_ret
      exact ⟨congrArg (fun s => Ending.returned (Value.string s)) HT.out, HB9.out⟩
  · by_cases hs : s = 7200
    · subst hs
      have HT := Lib.hid (show bs (dec d.toNat) = bs (textL ⟨2, d, 0, 0, 7200⟩) by
        skip
        unfold textL
        rw [if_neg (show ¬ (2 : Int) = 1 by decide), if_neg (show ¬ (2 : Int) = 3 by decide), if_pos rfl]
        simp)
      obtain ⟨D, hD⟩ : ∃ D, bs (dec d.toNat) = D := ⟨_, rfl⟩
      rw [hD] at CD HT z1
      clear CS
      clear hD
      go_enter Tryz.func88, Tryz.ntmps88
      go_wp2_with fail
      refine (CD.out _ (HE.out.keep HA.out)).mono ?_
      rintro _ V ⟨rfl, hb⟩
      have hr := HR.out.keep hb
      have c0 := hr.2 0
      have c2 := hr.2 2
      have c3 := hr.2 3
      have c4 := hr.2 4
      have HB := Lib.hid (HA.out.trans (hb.mono HA.out.size))
      have HRV := Lib.hid hr
      clear hb hr
      go_wp2_with fail
      go_ret
      exact ⟨congrArg (fun s => Ending.returned (Value.string s)) HT.out, HB.out⟩
    · skip
      have HT := Lib.hid (show (bs (dec d.toNat)) ++ ⟨#[47]⟩ ++ bs (shortL s) = bs (textL ⟨2, d, 0, 0, s⟩) by
        rw [show (⟨#[47]⟩ : ByteArray) = bs [47] from rfl, bs_add, bs_add]
        unfold textL
        rw [if_neg (show ¬ (2 : Int) = 1 by decide), if_neg (show ¬ (2 : Int) = 3 by decide), if_neg hs]
        simp)
      obtain ⟨D, hD⟩ : ∃ D, bs (dec d.toNat) = D := ⟨_, rfl⟩
      rw [hD] at CD HT z1
      obtain ⟨S, hS⟩ : ∃ D, bs (shortL s) = D := ⟨_, rfl⟩
      rw [hS] at CS HT z2
      have t0 : (s == 7200) = false := by rw [beq_eq_false_iff_ne]; exact hs
      clear hS hs
      clear hD
      go_enter Tryz.func88, Tryz.ntmps88
      go_wp2_with fail
      refine (CD.out _ (HE.out.keep HA.out)).mono ?_
      rintro _ V ⟨rfl, hb⟩
      have hr := HR.out.keep hb
      have c0 := hr.2 0
      have c2 := hr.2 2
      have c3 := hr.2 3
      have c4 := hr.2 4
      have HB := Lib.hid (HA.out.trans (hb.mono HA.out.size))
      have HRV := Lib.hid hr
      clear hb hr
      go_wp2_with fail
      refine (CS.out _ (HE.out.keep HB.out)).mono ?_
      rintro _ V9 ⟨rfl, hb⟩
      have HB9 := Lib.hid (HB.out.trans (hb.mono HB.out.size))
      clear hb
      go_wp2_with fail
      go_ret
      exact ⟨congrArg (fun s => Ending.returned (Value.string s)) HT.out, HB9.out⟩
  · have z3 := Off.dec_size m.toNat
    have z4 := Off.dec_size x.toNat
    by_cases hs : s = 7200
    · subst hs
      have HT := Lib.hid (show (⟨#[77]⟩ : ByteArray) ++ bs (dec m.toNat) ++ ⟨#[46]⟩ ++ bs (dec x.toNat) ++ ⟨#[46]⟩ ++ bs (dec d.toNat) = bs (textL ⟨3, d, m, x, 7200⟩) by
        rw [show (⟨#[77]⟩ : ByteArray) = bs [77] from rfl, show (⟨#[46]⟩ : ByteArray) = bs [46] from rfl, bs_add, bs_add, bs_add, bs_add, bs_add]
        unfold textL
        rw [if_neg (show ¬ (3 : Int) = 1 by decide), if_pos rfl, if_pos rfl]
        simp)
      obtain ⟨D, hD⟩ : ∃ D, bs (dec d.toNat) = D := ⟨_, rfl⟩
      rw [hD] at CD HT z1
      clear CS
      clear hD
      go_enter Tryz.func88, Tryz.ntmps88
      go_wp2_with fail
      refine (CD.out _ (HE.out.keep HA.out)).mono ?_
      rintro _ V ⟨rfl, hb⟩
      have hr := HR.out.keep hb
      have c0 := hr.2 0
      have c2 := hr.2 2
      have c3 := hr.2 3
      have c4 := hr.2 4
      have HB := Lib.hid (HA.out.trans (hb.mono HA.out.size))
      have HRV := Lib.hid hr
      clear hb hr
      go_wp2_with fail
      go_quiet ((go_at_call 64; exact Calls.quiet_of_same (itoa_small _ (by omega) (by omega) _)))
      have HB2 := Lib.hid (Civ.below_drewN HB.out nq)
      go_wp2_with fail
      go_ret
      exact ⟨congrArg (fun s => Ending.returned (Value.string s)) HT.out, HB2.out⟩
    · skip
      have HT := Lib.hid (show ((⟨#[77]⟩ : ByteArray) ++ bs (dec m.toNat) ++ ⟨#[46]⟩ ++ bs (dec x.toNat) ++ ⟨#[46]⟩ ++ bs (dec d.toNat)) ++ ⟨#[47]⟩ ++ bs (shortL s) = bs (textL ⟨3, d, m, x, s⟩) by
        rw [show (⟨#[77]⟩ : ByteArray) = bs [77] from rfl, show (⟨#[46]⟩ : ByteArray) = bs [46] from rfl, show (⟨#[47]⟩ : ByteArray) = bs [47] from rfl, bs_add, bs_add, bs_add, bs_add, bs_add, bs_add, bs_add]
        unfold textL
        rw [if_neg (show ¬ (3 : Int) = 1 by decide), if_pos rfl, if_neg hs]
        simp)
      obtain ⟨D, hD⟩ : ∃ D, bs (dec d.toNat) = D := ⟨_, rfl⟩
      rw [hD] at CD HT z1
      obtain ⟨S, hS⟩ : ∃ D, bs (shortL s) = D := ⟨_, rfl⟩
      rw [hS] at CS HT z2
      have t0 : (s == 7200) = false := by rw [beq_eq_false_iff_ne]; exact hs
      clear hS hs
      clear hD
      go_enter Tryz.func88, Tryz.ntmps88
      go_wp2_with fail
      refine (CD.out _ (HE.out.keep HA.out)).mono ?_
      rintro _ V ⟨rfl, hb⟩
      have hr := HR.out.keep hb
      have c0 := hr.2 0
      have c2 := hr.2 2
      have c3 := hr.2 3
      have c4 := hr.2 4
      have HB := Lib.hid (HA.out.trans (hb.mono HA.out.size))
      have HRV := Lib.hid hr
      clear hb hr
      go_wp2_with fail
      go_quiet ((go_at_call 64; exact Calls.quiet_of_same (itoa_small _ (by omega) (by omega) _)))
      have HB2 := Lib.hid (Civ.below_drewN HB.out nq)
      go_wp2_with fail
      refine (CS.out _ (HE.out.keep HB2.out)).mono ?_
      rintro _ V9 ⟨rfl, hb⟩
      have HB9 := Lib.hid (HB2.out.trans (hb.mono HB2.out.size))
      clear hb
      go_wp2_with fail
      go_ret
      exact ⟨congrArg (fun s => Ending.returned (Value.string s)) HT.out, HB9.out⟩
end Go.Proofs.YtlaplgaccjmbhaaGreatDoor.Px
namespace Go.Proofs.YtlaplgaccjmbhaaGreatDoor.Px
open Go.RowKit
open Civ
open Off (dec two printN printO bs_add)
theorem print_bad (p : Pos) (ha : p.std.size ≤ 1000000) (hc : p.dst.size ≤ 1000000) (hp : p.ok = false) (w : World) :
    Calls Tryz.prog 42 #[p.val] w fun e w' => e = .returned (.tuple #[.string (bs []), .int .i64 2]) ∧ Below w.heap.size w w' := by
  have CC := Lib.hid (check_any p ha hc)
  rw [hp] at CC
  obtain ⟨a, b, c, d, ⟨k1, d1, m1, w1, s1⟩, ⟨k2, d2, m2, w2, s2⟩⟩ := p
  unfold Pos.val at CC ⊢
  dsimp only at CC ⊢
  have HA := Lib.hid ((Below.refl _ w).alloc (Nat.le_refl _) (.cells #[.string a, .int .i64 b, .string c, .int .i64 d, .int .i64 k1, .int .i64 d1, .int .i64 m1, .int .i64 w1, .int .i64 s1, .int .i64 k2, .int .i64 d2, .int .i64 m2, .int .i64 w2, .int .i64 s2] 50))
  clear hp ha hc
  go_enter Tryz.func42, Tryz.ntmps42
  go_wp2_with fail
  refine (CC.out _).mono ?_
  rintro _ V ⟨rfl, hb⟩
  rw [show codeE false = 2 from rfl]
  have HB := Lib.hid (HA.out.trans (hb.mono HA.out.size))
  clear hb
  go_wp2_with fail
  go_ret2
  exact ⟨rfl, HB.out⟩
theorem bdrew (w : World) : Below w.heap.size w w.drew := ⟨rfl, rfl, rfl, Nat.le_refl _, fun _ _ => rfl⟩
theorem ptA {W X : World} {B : Nat} {a c : List UInt8} {b d k1 d1 m1 w1 s1 k2 d2 m2 w2 s2 : Int} (h : RowAt W B #[.string (bs a), .int .i64 b, .string (bs c), .int .i64 d, .int .i64 k1, .int .i64 d1, .int .i64 m1, .int .i64 w1, .int .i64 s1, .int .i64 k2, .int .i64 d2, .int .i64 m2, .int .i64 w2, .int .i64 s2]) (hB : Below W.heap.size W X) :
    X.cell? ⟨B, 0, none⟩ = some (.string (bs a)) ∧ X.cell? ⟨B, 1, none⟩ = some (.int .i64 b) ∧ Below W.heap.size W X := by
  obtain ⟨c0, c1, c2, c3, c4, c5, c6, c7, c8, c9, c10, c11, c12, c13⟩ := (h.keep hB).pos
  exact ⟨c0, c1, hB⟩
theorem ptB {W X : World} {B : Nat} {a c : List UInt8} {b d k1 d1 m1 w1 s1 k2 d2 m2 w2 s2 : Int} (h : RowAt W B #[.string (bs a), .int .i64 b, .string (bs c), .int .i64 d, .int .i64 k1, .int .i64 d1, .int .i64 m1, .int .i64 w1, .int .i64 s1, .int .i64 k2, .int .i64 d2, .int .i64 m2, .int .i64 w2, .int .i64 s2]) (hB : Below W.heap.size W X) :
    X.cell? ⟨B, 4, none⟩ = some (.int .i64 k1) ∧ X.cell? ⟨B, 5, none⟩ = some (.int .i64 d1) ∧ X.cell? ⟨B, 6, none⟩ = some (.int .i64 m1) ∧ X.cell? ⟨B, 7, none⟩ = some (.int .i64 w1) ∧ X.cell? ⟨B, 8, none⟩ = some (.int .i64 s1) ∧ X.cell? ⟨B, 9, none⟩ = some (.int .i64 k2) ∧ X.cell? ⟨B, 10, none⟩ = some (.int .i64 d2) ∧ X.cell? ⟨B, 11, none⟩ = some (.int .i64 m2) ∧ X.cell? ⟨B, 12, none⟩ = some (.int .i64 w2) ∧ X.cell? ⟨B, 13, none⟩ = some (.int .i64 s2) ∧ Below W.heap.size W X := by
  obtain ⟨c0, c1, c2, c3, c4, c5, c6, c7, c8, c9, c10, c11, c12, c13⟩ := (h.keep hB).pos
  exact ⟨c4, c5, c6, c7, c8, c9, c10, c11, c12, c13, hB⟩
theorem ok_list {a c : List UInt8} {b d : Int} {x y : Dt} (hp : Pos.ok ⟨bs a, b, bs c, d, x, y⟩ = true) : a.all inB = true ∧ -89999 ≤ b ∧ b ≤ 89999 ∧ (c = [] ∨ (c ≠ [] ∧ c.all inB = true ∧ -89999 ≤ d ∧ d ≤ 89999 ∧ x.ok = true ∧ y.ok = true)) := by
  unfold Pos.ok Pos.stdB Pos.dstB Pos.noneB noneQ offB at hp
  dsimp only at hp
  rw [bs_list, bs_list] at hp
  simp only [Bool.and_eq_true, Bool.or_eq_true, decide_eq_true_eq] at hp
  obtain ⟨⟨h1, h2, h3⟩, h4⟩ := hp
  have hn : ∀ l, nameOk l = true → l.all inB = true ∧ l ≠ [] := by
    intro l h
    unfold nameOk at h
    simp only [Bool.and_eq_true, decide_eq_true_eq] at h
    exact ⟨h.2, by intro e; rw [e] at h; exact absurd h.1.1 (by decide)⟩
  refine ⟨(hn a h1).1, h2, h3, ?_⟩
  rcases h4 with h4 | h4
  · left
    have := h4.1.1.1.1.1.1.1.1.1.1.1
    rw [ByteArray.toList_eq, bs_list] at this
    simpa using this
  · right
    obtain ⟨⟨⟨h5, h6, h7⟩, h8⟩, h9⟩ := h4
    exact ⟨(hn c h5).2, (hn c h5).1, h6, h7, h8, h9⟩
set_option maxHeartbeats 4000000 in
set_option maxRecDepth 100000 in
theorem print_cells (a c : List UInt8) (b d k1 d1 m1 w1 s1 k2 d2 m2 w2 s2 : Int) (hp : Pos.ok ⟨bs a, b, bs c, d, ⟨k1, d1, m1, w1, s1⟩, ⟨k2, d2, m2, w2, s2⟩⟩ = true) (ha : a.length ≤ 1000) (hc : c.length ≤ 1000) (w : World) (hE : EnvAt w) :
    Calls Tryz.prog 42 #[.agg #[.string (bs a), .int .i64 b, .string (bs c), .int .i64 d, .int .i64 k1, .int .i64 d1, .int .i64 m1, .int .i64 w1, .int .i64 s1, .int .i64 k2, .int .i64 d2, .int .i64 m2, .int .i64 w2, .int .i64 s2]] w fun e w' =>
      e = .returned (.tuple #[.string (bs (printL ⟨bs a, b, bs c, d, ⟨k1, d1, m1, w1, s1⟩, ⟨k2, d2, m2, w2, s2⟩⟩)), .int .i64 0]) ∧ Below w.heap.size w w' := by
  have CC := Lib.hid (check_any ⟨bs a, b, bs c, d, ⟨k1, d1, m1, w1, s1⟩, ⟨k2, d2, m2, w2, s2⟩⟩ (by rw [bs_size]; omega) (by rw [bs_size]; omega))
  rw [hp] at CC
  unfold Pos.val at CC
  dsimp only at CC
  obtain ⟨hia, hb0, hb1, hcs⟩ := ok_list hp
  have CQ := Lib.hid (fun w => quote_any a ha hia w)
  have CS := Lib.hid (fun w hE => short_any (-b) (by omega) (by omega) w hE)
  have zq : (bs (quoteL a)).size ≤ 1002 := by rw [bs_size]; have := quoteL_len a; omega
  have zs : (bs (shortL (-b))).size ≤ 10 := by rw [bs_size]; exact shortL_len _
  have HL := Lib.hid (show bs (printL ⟨bs a, b, bs c, d, ⟨k1, d1, m1, w1, s1⟩, ⟨k2, d2, m2, w2, s2⟩⟩) = bs (if c.isEmpty then quoteL a ++ shortL (-b) else quoteL a ++ shortL (-b) ++ quoteL c ++ (if d = b + 3600 then [] else shortL (-d)) ++ 44 :: textL ⟨k1, d1, m1, w1, s1⟩ ++ 44 :: textL ⟨k2, d2, m2, w2, s2⟩) from rfl)
  obtain ⟨OUT, hOUT⟩ : ∃ x, bs (printL ⟨bs a, b, bs c, d, ⟨k1, d1, m1, w1, s1⟩, ⟨k2, d2, m2, w2, s2⟩⟩) = x := ⟨_, rfl⟩
  rw [hOUT] at HL ⊢
  have HA := Lib.hid ((Below.refl _ w).alloc (Nat.le_refl _) (.cells #[.string (bs a), .int .i64 b, .string (bs c), .int .i64 d, .int .i64 k1, .int .i64 d1, .int .i64 m1, .int .i64 w1, .int .i64 s1, .int .i64 k2, .int .i64 d2, .int .i64 m2, .int .i64 w2, .int .i64 s2] 50))
  have HR := Lib.hid (rowAt_alloc w #[.string (bs a), .int .i64 b, .string (bs c), .int .i64 d, .int .i64 k1, .int .i64 d1, .int .i64 m1, .int .i64 w1, .int .i64 s1, .int .i64 k2, .int .i64 d2, .int .i64 m2, .int .i64 w2, .int .i64 s2] 50)
  have hcat1 : ¬ 9223372036854775807 < (bs (quoteL a)).size + (bs (shortL (-b))).size := by omega
  have q1 : IntKind.i64.wrap (-b) = -b := IntWalk.i64_in _ (by omega)
  have HE := Lib.hid hE
  clear hp hOUT hia hE
  go_enter Tryz.func42, Tryz.ntmps42
  go_wp2_with fail
  refine (CC.out _).mono ?_
  rintro _ V ⟨rfl, hb⟩
  rw [show codeE true = 0 from rfl]
  have HB := Lib.hid (HA.out.trans (hb.mono HA.out.size))
  have HEV := Lib.hid (HE.out.keep HB.out)
  have HRV := Lib.hid (HR.out.keep hb)
  obtain ⟨c0, c1, c2, c3, c4, c5, c6, c7, c8, c9, c10, c11, c12, c13⟩ := (HR.out.keep hb).pos
  clear hb
  go_wp2_with fail
  go_cut [4] (fun v wx => v = .string (bs (quoteL a) ++ bs (shortL (-b))) ∧ Below V.heap.size V wx)
  case first =>
    go_region_held3 (fun w' => w'.cell? ⟨w.heap.size, 0, none⟩ = some (.string (bs a)) ∧ w'.cell? ⟨w.heap.size, 1, none⟩ = some (.int .i64 b) ∧ Below V.heap.size V w')
      (first | exact ptA HRV.out HX1.out | exact ptA HRV.out HX0.out | exact ptA HRV.out (bdrew _))
      (first
        | (go_at_call 86; refine (CQ.out _).mono ?_; rintro e X ⟨rfl, hb⟩; have HX1 := Lib.hid (HX0.out.trans (hb.mono HX0.out.size)); clear hb)
        | (go_at_call 87; refine (CS.out _ (HEV.out.keep HX0.out)).mono ?_; rintro e X ⟨rfl, hb⟩; have HX1 := Lib.hid (HX0.out.trans (hb.mono HX0.out.size)); clear hb)
        | (go_at_call 86; refine (CQ.out _).mono ?_; rintro e X ⟨rfl, hb⟩; have HX0 : Hid (Below V.heap.size V X) := Lib.hid (below_over hb rfl rfl rfl rfl); clear hb)
        | (go_at_call 87; refine (CS.out _ (HEV.out.keep (bdrew _))).mono ?_; rintro e X ⟨rfl, hb⟩; have HX0 : Hid (Below V.heap.size V X) := Lib.hid (below_over hb rfl rfl rfl rfl); clear hb))
    all_goals
      go_wp2_with fail
      go_meet
      exact ⟨rfl, HX1.out⟩
  case rest =>
    obtain ⟨rfl, hb⟩ := hcut
    have hQ : bs (quoteL a) ++ bs (shortL (-b)) = bs (quoteL a ++ shortL (-b)) := bs_add _ _
    obtain ⟨A, hA⟩ : ∃ A, quoteL a ++ shortL (-b) = A := ⟨_, rfl⟩
    rw [hQ, hA]
    rw [hA] at HL
    have zA : (bs A).size ≤ 1012 := by
      have e1 := bs_size (quoteL a)
      have e2 := bs_size (shortL (-b))
      rw [← hA, bs_size, List.length_append]; omega
    have HBC := Lib.hid (HB.out.trans (hb.mono HB.out.size))
    have HRC := Lib.hid (HRV.out.keep hb)
    have HEC := Lib.hid (HEV.out.keep hb)
    clear c0 c1 c2 c3 c4 c5 c6 c7 c8 c9 c10 c11 c12 c13
    obtain ⟨c0, c1, c2, c3, c4, c5, c6, c7, c8, c9, c10, c11, c12, c13⟩ := (HRV.out.keep hb).pos
    clear hb hQ hA hcat1 zq zs CQ CS CC
    rcases hcs with rfl | ⟨hne, hic, hd0, hd1, hx, hy⟩
    · have e1 : (bs []).toList.isEmpty = true := (Off.bs_emp rfl).1
      have e2 : (bs []).toList = [] := (Off.bs_emp rfl).2
      go_wp2_with fail
      go_ret2
      exact ⟨by rw [HL.out]; rfl, HBC.out⟩
    · have e1 : (bs c).toList.isEmpty = false := Off.bs_full hne
      have hl : c.isEmpty = false := by simpa using hne
      rw [hl, if_neg (by decide)] at HL
      have CQ := Lib.hid (fun w => quote_any c hc hic w)
      have CS := Lib.hid (fun w hE => short_any (-d) (by omega) (by omega) w hE)
      have zq : (bs (quoteL c)).size ≤ 1002 := by rw [bs_size]; have := quoteL_len c; omega
      have zs : (bs (shortL (-d))).size ≤ 10 := by rw [bs_size]; exact shortL_len _
      have C1 := Lib.hid (fun w hE => text_any k1 d1 m1 w1 s1 hx w hE)
      have C2 := Lib.hid (fun w hE => text_any k2 d2 m2 w2 s2 hy w hE)
      have z1 : (bs (textL ⟨k1, d1, m1, w1, s1⟩)).size ≤ 23 := by rw [bs_size]; exact textL_len _
      have z2 : (bs (textL ⟨k2, d2, m2, w2, s2⟩)).size ≤ 23 := by rw [bs_size]; exact textL_len _
      clear hl hne hic hx hy
      go_wp2_with fail
      refine (CQ.out _).mono ?_
      rintro _ V1 ⟨rfl, hb⟩
      have HBD := Lib.hid (HBC.out.trans (hb.mono HBC.out.size))
      have HRD := Lib.hid (HRC.out.keep hb)
      have HED := Lib.hid (HEC.out.keep hb)
      clear c0 c1 c2 c3 c4 c5 c6 c7 c8 c9 c10 c11 c12 c13
      obtain ⟨c0, c1, c2, c3, c4, c5, c6, c7, c8, c9, c10, c11, c12, c13⟩ := (HRC.out.keep hb).pos
      clear hb
      have hcat2 : ¬ 9223372036854775807 < (bs A).size + (bs (quoteL c)).size := by omega
      have hAC : bs A ++ bs (quoteL c) = bs (A ++ quoteL c) := bs_add _ _
      obtain ⟨T1, hT1⟩ : ∃ T, textL ⟨k1, d1, m1, w1, s1⟩ = T := ⟨_, rfl⟩
      obtain ⟨T2, hT2⟩ : ∃ T, textL ⟨k2, d2, m2, w2, s2⟩ = T := ⟨_, rfl⟩
      rw [hT1] at C1 z1 HL
      rw [hT2] at C2 z2 HL
      have HAC := Lib.hid hAC
      have zAC : (bs (A ++ quoteL c)).size ≤ 2014 := by
        have e1 := bs_size A
        have e2 := bs_size (quoteL c)
        rw [bs_size, List.length_append]; omega
      obtain ⟨B, hB⟩ : ∃ B, A ++ quoteL c = B := ⟨_, rfl⟩
      rw [hB] at HAC HL zAC
      clear hAC hT1 hT2 hB
      by_cases hd : d = b + 3600
      · skip
        have t0 : (d != b + 3600) = false := by rw [bne_eq_false_iff_eq]; exact hd
        rw [if_pos hd, List.append_nil] at HL
        clear hd CS zs
        obtain ⟨V2, hV2⟩ : ∃ V2, V2 = V1 := ⟨_, rfl⟩
        subst hV2
        have HF := Lib.hid (show bs B ++ ⟨#[44]⟩ ++ bs T1 ++ ⟨#[44]⟩ ++ bs T2 = OUT by
          rw [HL.out, show (⟨#[44]⟩ : ByteArray) = bs [44] from rfl, bs_add, bs_add, bs_add, bs_add]; simp)
        have k44 : (⟨#[44]⟩ : ByteArray).size = 1 := rfl
        have hcA : ¬ 9223372036854775807 < (bs B).size + 1 := by omega
        have hcB : ¬ 9223372036854775807 < (bs B).size + 1 + (bs T1).size := by omega
        have hcC : ¬ 9223372036854775807 < (bs B).size + 1 + (bs T1).size + 1 := by omega
        have hcD : ¬ 9223372036854775807 < (bs B).size + 1 + (bs T1).size + 1 + (bs T2).size := by omega
        go_wp2_with fail
        rw [HAC.out]
        go_region_held3 (fun w' => w'.cell? ⟨w.heap.size, 4, none⟩ = some (.int .i64 k1) ∧ w'.cell? ⟨w.heap.size, 5, none⟩ = some (.int .i64 d1) ∧ w'.cell? ⟨w.heap.size, 6, none⟩ = some (.int .i64 m1) ∧ w'.cell? ⟨w.heap.size, 7, none⟩ = some (.int .i64 w1) ∧ w'.cell? ⟨w.heap.size, 8, none⟩ = some (.int .i64 s1) ∧ w'.cell? ⟨w.heap.size, 9, none⟩ = some (.int .i64 k2) ∧ w'.cell? ⟨w.heap.size, 10, none⟩ = some (.int .i64 d2) ∧ w'.cell? ⟨w.heap.size, 11, none⟩ = some (.int .i64 m2) ∧ w'.cell? ⟨w.heap.size, 12, none⟩ = some (.int .i64 w2) ∧ w'.cell? ⟨w.heap.size, 13, none⟩ = some (.int .i64 s2) ∧ Below V2.heap.size V2 w')
          (first | exact ptB HRD.out HX1.out | exact ptB HRD.out HX0.out | exact ptB HRD.out (bdrew _))
          (first
            | (go_at_call_of 88 (Value.agg #[.int .i64 k1, .int .i64 d1, .int .i64 m1, .int .i64 w1, .int .i64 s1]); refine (C1.out _ (HED.out.keep HX0.out)).mono ?_; rintro e X ⟨rfl, hb⟩; have HX1 := Lib.hid (HX0.out.trans (hb.mono HX0.out.size)); clear hb)
            | (go_at_call_of 88 (Value.agg #[.int .i64 k2, .int .i64 d2, .int .i64 m2, .int .i64 w2, .int .i64 s2]); refine (C2.out _ (HED.out.keep HX0.out)).mono ?_; rintro e X ⟨rfl, hb⟩; have HX1 := Lib.hid (HX0.out.trans (hb.mono HX0.out.size)); clear hb)
            | (go_at_call_of 88 (Value.agg #[.int .i64 k1, .int .i64 d1, .int .i64 m1, .int .i64 w1, .int .i64 s1]); refine (C1.out _ (HED.out.keep (bdrew _))).mono ?_; rintro e X ⟨rfl, hb⟩; have HX0 : Hid (Below V2.heap.size V2 X) := Lib.hid (below_over hb rfl rfl rfl rfl); clear hb)
            | (go_at_call_of 88 (Value.agg #[.int .i64 k2, .int .i64 d2, .int .i64 m2, .int .i64 w2, .int .i64 s2]); refine (C2.out _ (HED.out.keep (bdrew _))).mono ?_; rintro e X ⟨rfl, hb⟩; have HX0 : Hid (Below V2.heap.size V2 X) := Lib.hid (below_over hb rfl rfl rfl rfl); clear hb))
        all_goals
          go_wp2_with fail
          go_ret2
          exact ⟨congrArg (fun s => Ending.returned (.tuple #[Value.string s, .int .i64 0])) HF.out, HBD.out.trans (HX1.out.mono HBD.out.size)⟩
      · skip
        have t0 : (d != b + 3600) = true := by rw [bne_iff_ne]; exact hd
        rw [if_neg hd] at HL
        clear hd
        have q2 : IntKind.i64.wrap (-d) = -d := IntWalk.i64_in _ (by omega)
        have hcat3 : ¬ 9223372036854775807 < (bs B).size + (bs (shortL (-d))).size := by omega
        have HBS := Lib.hid (show bs B ++ bs (shortL (-d)) = bs (B ++ shortL (-d)) from bs_add _ _)
        have zBS : (bs (B ++ shortL (-d))).size ≤ 2024 := by
          have e1 := bs_size B
          have e2 := bs_size (shortL (-d))
          rw [bs_size, List.length_append]; omega
        obtain ⟨C, hC⟩ : ∃ C, B ++ shortL (-d) = C := ⟨_, rfl⟩
        rw [hC] at HBS HL zBS
        clear hC
        have HF := Lib.hid (show bs C ++ ⟨#[44]⟩ ++ bs T1 ++ ⟨#[44]⟩ ++ bs T2 = OUT by
          rw [HL.out, show (⟨#[44]⟩ : ByteArray) = bs [44] from rfl, bs_add, bs_add, bs_add, bs_add]; simp)
        have k44 : (⟨#[44]⟩ : ByteArray).size = 1 := rfl
        have hcA : ¬ 9223372036854775807 < (bs C).size + 1 := by omega
        have hcB : ¬ 9223372036854775807 < (bs C).size + 1 + (bs T1).size := by omega
        have hcC : ¬ 9223372036854775807 < (bs C).size + 1 + (bs T1).size + 1 := by omega
        have hcD : ¬ 9223372036854775807 < (bs C).size + 1 + (bs T1).size + 1 + (bs T2).size := by omega
        go_wp2_with fail
        rw [HAC.out]
        refine (CS.out _ HED.out).mono ?_
        rintro _ V2 ⟨rfl, hb⟩
        have HBE := Lib.hid (HBD.out.trans (hb.mono HBD.out.size))
        have HRE := Lib.hid (HRD.out.keep hb)
        have HEE := Lib.hid (HED.out.keep hb)
        clear c0 c1 c2 c3 c4 c5 c6 c7 c8 c9 c10 c11 c12 c13
        obtain ⟨c0, c1, c2, c3, c4, c5, c6, c7, c8, c9, c10, c11, c12, c13⟩ := (HRD.out.keep hb).pos
        clear hb
        go_wp2_with fail
        rw [HBS.out]
        go_region_held3 (fun w' => w'.cell? ⟨w.heap.size, 4, none⟩ = some (.int .i64 k1) ∧ w'.cell? ⟨w.heap.size, 5, none⟩ = some (.int .i64 d1) ∧ w'.cell? ⟨w.heap.size, 6, none⟩ = some (.int .i64 m1) ∧ w'.cell? ⟨w.heap.size, 7, none⟩ = some (.int .i64 w1) ∧ w'.cell? ⟨w.heap.size, 8, none⟩ = some (.int .i64 s1) ∧ w'.cell? ⟨w.heap.size, 9, none⟩ = some (.int .i64 k2) ∧ w'.cell? ⟨w.heap.size, 10, none⟩ = some (.int .i64 d2) ∧ w'.cell? ⟨w.heap.size, 11, none⟩ = some (.int .i64 m2) ∧ w'.cell? ⟨w.heap.size, 12, none⟩ = some (.int .i64 w2) ∧ w'.cell? ⟨w.heap.size, 13, none⟩ = some (.int .i64 s2) ∧ Below V2.heap.size V2 w')
          (first | exact ptB HRE.out HX1.out | exact ptB HRE.out HX0.out | exact ptB HRE.out (bdrew _))
          (first
            | (go_at_call_of 88 (Value.agg #[.int .i64 k1, .int .i64 d1, .int .i64 m1, .int .i64 w1, .int .i64 s1]); refine (C1.out _ (HEE.out.keep HX0.out)).mono ?_; rintro e X ⟨rfl, hb⟩; have HX1 := Lib.hid (HX0.out.trans (hb.mono HX0.out.size)); clear hb)
            | (go_at_call_of 88 (Value.agg #[.int .i64 k2, .int .i64 d2, .int .i64 m2, .int .i64 w2, .int .i64 s2]); refine (C2.out _ (HEE.out.keep HX0.out)).mono ?_; rintro e X ⟨rfl, hb⟩; have HX1 := Lib.hid (HX0.out.trans (hb.mono HX0.out.size)); clear hb)
            | (go_at_call_of 88 (Value.agg #[.int .i64 k1, .int .i64 d1, .int .i64 m1, .int .i64 w1, .int .i64 s1]); refine (C1.out _ (HEE.out.keep (bdrew _))).mono ?_; rintro e X ⟨rfl, hb⟩; have HX0 : Hid (Below V2.heap.size V2 X) := Lib.hid (below_over hb rfl rfl rfl rfl); clear hb)
            | (go_at_call_of 88 (Value.agg #[.int .i64 k2, .int .i64 d2, .int .i64 m2, .int .i64 w2, .int .i64 s2]); refine (C2.out _ (HEE.out.keep (bdrew _))).mono ?_; rintro e X ⟨rfl, hb⟩; have HX0 : Hid (Below V2.heap.size V2 X) := Lib.hid (below_over hb rfl rfl rfl rfl); clear hb))
        all_goals
          go_wp2_with fail
          go_ret2
          exact ⟨congrArg (fun s => Ending.returned (.tuple #[Value.string s, .int .i64 0])) HF.out, HBE.out.trans (HX1.out.mono HBE.out.size)⟩
theorem prt_any (p : Pos) (ha : p.std.size ≤ 1000) (hc : p.dst.size ≤ 1000) (w : World) (hE : EnvAt w) :
    Calls Tryz.prog 42 #[p.val] w fun e w' => e = .returned (.tuple #[.string (bs (printP p).1), .int .i64 (printP p).2]) ∧ Below w.heap.size w w' := by
  unfold printP
  cases hp : p.ok
  · rw [if_neg (by decide)]
    exact print_bad p (by omega) (by omega) hp w
  · rw [if_pos rfl]
    obtain ⟨a, b, c, d, ⟨k1, d1, m1, w1, s1⟩, ⟨k2, d2, m2, w2, s2⟩⟩ := p
    obtain ⟨a, rfl⟩ : ∃ l, a = bs l := ⟨a.data.toList, rfl⟩
    obtain ⟨c, rfl⟩ : ∃ l, c = bs l := ⟨c.data.toList, rfl⟩
    exact print_cells a c b d k1 d1 m1 w1 s1 k2 d2 m2 w2 s2 hp (by have := bs_size a; dsimp only at ha; omega) (by have := bs_size c; dsimp only at hc; omega) w hE
end Go.Proofs.YtlaplgaccjmbhaaGreatDoor.Px

