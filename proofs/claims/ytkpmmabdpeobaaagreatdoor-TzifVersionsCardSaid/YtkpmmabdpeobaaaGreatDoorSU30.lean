/- The functions digits, quote, short, text and Print of analemmaref37. The function analemmaref37.Print: the string of a TZ. -/
import Derived.Test.YtkpmmabdpeobaaaGreatDoorSU12
import Derived.Test.YtkpmmabdpeobaaaGreatDoorSU7
import Derived.Test.YtkpmmabdpeobaaaGreatDoorSU4
import Derived.Test.YtkpmmabdpeobaaaGreatDoorSU10
import Derived.Deep.QuietTactic
import Derived.BigQuiet
import Derived.Outline
import Derived.Deep.RegionWith
import Derived.Deep.RegionHeld3
import Derived.Deep.DeepCutAuto
namespace Go.Proofs.YtkpmmabdpeobaaaGreatDoor.Px
open Go.RowKit
open Civ
open Off (dec two printN printO bs_add dec_a dec_b dec_c dec_size digs_at digs10 cat_small)
theorem rd_dec1 (n : Nat) (h : n < 10) (w : World) :
 Calls Tryz.prog 134 #[.int .i64 (n : Int)] w fun e w' => e = .returned (.string (bs (dec n))) ∧ w = w' := by
 have i1 : (n : Int) < 10 := by omega
 have i0 : (0 : Int) ≤ (n : Int) := by omega
 have HD := Lib.hid (digs_at n h)
 clear h
 go_enter Tryz.func134, Tryz.ntmps134
 go_wp2_with fail
 go_ret
 exact ⟨congrArg (fun s => Ending.returned (Value.string s)) HD.out, rfl⟩
theorem rd_dec1' (x : Int) (n : Nat) (hx : x = n) (h : n < 10) (w : World) :
 Calls Tryz.prog 134 #[.int .i64 x] w fun e w' => e = .returned (.string (bs (dec n))) ∧ ∃ k, w' = w.drewN k := by
 subst hx; exact (rd_dec1 n h w).mono fun _ _ h => ⟨h.1, 0, h.2.symm⟩
theorem rd_dec2 (n : Nat) (h1 : 10 ≤ n) (h : n < 100) (w : World) :
 Calls Tryz.prog 134 #[.int .i64 (n : Int)] w fun e w' => e = .returned (.string (bs (dec n))) ∧ ∃ k, w' = w.drewN k := by
 have i1 : (10 : Int) ≤ (n : Int) := by omega
 have i2 : (n : Int) ≤ 999 := by omega
 have CA := Lib.hid (rd_dec1' ((n : Int) / 10) (n / 10) (by omega) (by omega))
 have HG := Lib.hid (digs_at (n % 10) (by omega))
 have HE := Lib.hid (show bs (dec (n / 10)) ++ bs (dec (n % 10)) = bs (dec n) by rw [bs_add, ← dec_b (n := n) (by omega) h])
 have s1 := dec_size (n / 10)
 obtain ⟨a, ha⟩ : ∃ a, bs (dec (n / 10)) = a := ⟨_, rfl⟩
 rw [ha] at CA HE s1
 have q1 : IntKind.i64.wrap ((n : Int) % 10 + 1) = (n : Int) % 10 + 1 := IntWalk.i64_in _ (by omega)
 have q2 : (0 : Int) ≤ (n : Int) % 10 := by omega
 have q3 : ((n : Int) % 10 + 1).toNat = n % 10 + 1 := by omega
 have q4 : (n : Int) % 10 + 1 ≤ 10 := by omega
 have q5 : ((n : Int) % 10).toNat = n % 10 := by omega
 clear h h1 ha
 go_enter Tryz.func134, Tryz.ntmps134
 go_wp2_with fail
 go_quiet ((go_at_call 134; exact Calls.quiet_of (CA.out _)))
 go_wp2_with fail
 go_ret
 have hcg : ∀ t : ByteArray, t = bs (dec (n % 10)) → a ++ t = bs (dec n) := fun t ht => by rw [ht, HE.out]
 exact ⟨congrArg (fun s => Ending.returned (Value.string s)) (hcg _ HG.out), _, rfl⟩
theorem rd_dec12 (x : Int) (n : Nat) (hx : x = n) (h : n < 100) (w : World) :
 Calls Tryz.prog 134 #[.int .i64 x] w fun e w' => e = .returned (.string (bs (dec n))) ∧ ∃ k, w' = w.drewN k := by
 by_cases h1 : n < 10
 · exact rd_dec1' x n hx h1 w
 · subst hx; exact rd_dec2 n (by omega) h w
theorem rd_dec3 (n : Nat) (h1 : 100 ≤ n) (h : n < 1000) (w : World) :
 Calls Tryz.prog 134 #[.int .i64 (n : Int)] w fun e w' => e = .returned (.string (bs (dec n))) ∧ ∃ k, w' = w.drewN k := by
 have i1 : (10 : Int) ≤ (n : Int) := by omega
 have i2 : (n : Int) ≤ 999 := by omega
 have CA := Lib.hid (rd_dec12 ((n : Int) / 10) (n / 10) (by omega) (by omega))
 have HG := Lib.hid (digs_at (n % 10) (by omega))
 have HE := Lib.hid (show bs (dec (n / 10)) ++ bs (dec (n % 10)) = bs (dec n) by rw [bs_add, ← dec_c (n := n) (by omega) h])
 have s1 := dec_size (n / 10)
 obtain ⟨a, ha⟩ : ∃ a, bs (dec (n / 10)) = a := ⟨_, rfl⟩
 rw [ha] at CA HE s1
 have q1 : IntKind.i64.wrap ((n : Int) % 10 + 1) = (n : Int) % 10 + 1 := IntWalk.i64_in _ (by omega)
 have q2 : (0 : Int) ≤ (n : Int) % 10 := by omega
 have q3 : ((n : Int) % 10 + 1).toNat = n % 10 + 1 := by omega
 have q4 : (n : Int) % 10 + 1 ≤ 10 := by omega
 have q5 : ((n : Int) % 10).toNat = n % 10 := by omega
 clear h h1 ha
 go_enter Tryz.func134, Tryz.ntmps134
 go_wp2_with fail
 go_quiet ((go_at_call 134; exact Calls.quiet_of (CA.out _)))
 go_wp2_with fail
 go_ret
 have hcg : ∀ t : ByteArray, t = bs (dec (n % 10)) → a ++ t = bs (dec n) := fun t ht => by rw [ht, HE.out]
 exact ⟨congrArg (fun s => Ending.returned (Value.string s)) (hcg _ HG.out), _, rfl⟩
theorem ref_digits (x : Int) (n : Nat) (hx : x = n) (h : n < 1000) (w : World) :
 Calls Tryz.prog 134 #[.int .i64 x] w fun e w' => e = .returned (.string (bs (dec n))) ∧ ∃ k, w' = w.drewN k := by
 by_cases h1 : n < 100
 · exact rd_dec12 x n hx h1 w
 · subst hx; exact rd_dec3 n (by omega) h w
theorem ref_quote (l : List UInt8) (hl : l.length ≤ 1000) (hin : l.all inB = true) (w : World) :
 Calls Tryz.prog 91 #[.string (bs l)] w fun e w' => e = .returned (.string (bs (quoteL l))) ∧ w = w' := by
 have CC := Lib.hid (ref_name (bs l) (by rw [bs_size]; omega))
 unfold NamePost at CC
 rw [bs_list] at CC
 have hz := bs_size l
 have HQ := Lib.hid (show (⟨#[60]⟩ : ByteArray) ++ bs l ++ ⟨#[62]⟩ = bs (60 :: l ++ [62]) by
  rw [show (⟨#[60]⟩ : ByteArray) = bs [60] from rfl, show (⟨#[62]⟩ : ByteArray) = bs [62] from rfl, bs_add, bs_add]; rfl)
 unfold quoteL
 have HIN := Lib.hid hin
 obtain ⟨X, hX⟩ : ∃ X, bs l = X := ⟨_, rfl⟩
 rw [hX] at CC hz HQ
 have k1 : (⟨#[60]⟩ : ByteArray).size = 1 := rfl
 have k2 : (⟨#[62]⟩ : ByteArray).size = 1 := rfl
 have hz2 : X.size ≤ 1000 := by omega
 cases hb : l.all letC
 · rw [hb] at CC
   rw [hX, if_neg (by decide)]
   clear hz hX hin hb
   go_enter Tryz.func91, Tryz.ntmps91
   go_wp2_with fail
   refine (CC.out _).mono ?_
   rintro _ _ ⟨q, rfl, hq, rfl⟩
   obtain rfl : q = false := hq HIN.out
   clear hq
   go_wp2_with fail
   go_ret
   exact ⟨congrArg (fun s => Ending.returned (Value.string s)) HQ.out, rfl⟩
 · rw [hb] at CC
   rw [hX, if_pos rfl, hX]
   clear hz hX hin hb
   go_enter Tryz.func91, Tryz.ntmps91
   go_wp2_with fail
   refine (CC.out _).mono ?_
   rintro _ _ ⟨q, rfl, hq, rfl⟩
   obtain rfl : q = true := hq HIN.out
   clear hq
   go_wp2_with fail
   go_ret
   exact ⟨rfl, rfl⟩
theorem piece_yes (l : List UInt8) (X : ByteArray) (hX : bs (l ++ [58, 48, 48]) = X) : X.size = l.length + 3 ∧ ((X.extract (X.size - 3) X.size).toList == ([58, 48, 48] : List UInt8)) = true ∧ X.extract 0 (X.size - 3) = bs l := by
 have hz : X.size = l.length + 3 := by rw [← hX, bs_size, List.length_append]; rfl
 refine ⟨hz, ?_, ?_⟩
 · rw [bs_from _ _ _ hX, hz, Nat.add_sub_cancel, List.drop_left' rfl, ByteArray.toList_eq, bs_list]; rfl
 · rw [bs_upto _ _ _ hX, hz, Nat.add_sub_cancel, List.take_left' rfl]
theorem piece_no (l : List UInt8) (X : ByteArray) (hX : bs l = X) (h : Lib.hasSuffix l [58, 48, 48] = false) : ((X.extract (X.size - 3) X.size).toList == ([58, 48, 48] : List UInt8)) = false := by
 rw [bs_from _ _ _ hX, ByteArray.toList_eq, bs_list, Bool.eq_false_iff]
 intro e
 have e := eq_of_beq e
 have hl := List.take_append_drop (X.size - 3) l
 rw [e] at hl
 have := suffix_yes (l.take (X.size - 3))
 rw [hl, h] at this
 cases this
set_option maxHeartbeats 1000000 in
theorem ref_short (x : Int) (h0 : -604799 ≤ x) (h1 : x ≤ 604799) (w : World) :
 Calls Tryz.prog 92 #[.int .i64 x] w fun e w' => e = .returned (.string (bs (shortL x))) ∧ w = w' := by
 have CP := Lib.hid (fun w => Off.ref_print x h0 h1 w)
 have hsl := shortL_len x
 rcases print_short x h0 h1 with ⟨e1, e2⟩ | ⟨e1, e2, e3⟩
 · rw [e1] at CP
   have hpn := fun X hX => piece_no (shortL x) X hX e2
   have hz := bs_size (shortL x)
   obtain ⟨X, hX⟩ : ∃ X, bs (shortL x) = X := ⟨_, rfl⟩
   rw [hX] at CP hz ⊢
   have hpx := hpn X hX
   have hxs : X.size ≤ 10 := by omega
   clear e1 e2 h0 h1 hpn hX hz hsl
   by_cases h3 : 3 < X.size
   · have i3 : (3 : Int) < (X.size : Int) := by omega
     go_enter Tryz.func92, Tryz.ntmps92
     go_wp2_with fail
     refine (CP.out _).mono ?_
     rintro _ _ ⟨rfl, rfl⟩
     go_wp2_with fail
     refine wp_loop_rounds 1 ?_
     rw [rounds_succ]
     go_wp2_with fail
     go_ret
     exact ⟨rfl, rfl⟩
   · have i3 : (X.size : Int) ≤ 3 := by omega
     clear hpx
     go_enter Tryz.func92, Tryz.ntmps92
     go_wp2_with fail
     refine (CP.out _).mono ?_
     rintro _ _ ⟨rfl, rfl⟩
     go_wp2_with fail
     refine wp_loop_rounds 1 ?_
     rw [rounds_succ]
     go_wp2_with fail
     go_ret
     exact ⟨rfl, rfl⟩
 · rw [e1] at CP
   have hpy := fun X hX => piece_yes (shortL x) X hX
   have hpn := fun X hX => piece_no (shortL x) X hX e2
   have hz := bs_size (shortL x)
   obtain ⟨X, hX⟩ : ∃ X, bs (shortL x ++ [58, 48, 48]) = X := ⟨_, rfl⟩
   obtain ⟨Y, hY⟩ : ∃ Y, bs (shortL x) = Y := ⟨_, rfl⟩
   rw [hX] at CP
   rw [hY] at hz ⊢
   obtain ⟨p1, p2, p3⟩ := hpy X hX
   rw [hY] at p3
   have hpz := hpn Y hY
   have HP3 := Lib.hid p3
   have hxs : X.size ≤ 13 := by omega
   have hys : Y.size ≤ 10 := by omega
   have i3 : (3 : Int) < (X.size : Int) := by omega
   have i4 : (3 : Int) ≤ (X.size : Int) := by omega
   clear e1 e2 e3 h0 h1 hpn hpy hX hY hz hsl p1 p3
   by_cases h3 : 3 < Y.size
   · have j3 : (3 : Int) < (Y.size : Int) := by omega
     go_enter Tryz.func92, Tryz.ntmps92
     go_wp2_with fail
     refine (CP.out _).mono ?_
     rintro _ _ ⟨rfl, rfl⟩
     go_wp2_with fail
     refine wp_loop_rounds 2 ?_
     rw [rounds_succ]
     go_wp2_with fail
     rw [HP3.out, rounds_succ]
     go_wp2_with fail
     go_ret
     exact ⟨rfl, rfl⟩
   · have j3 : (Y.size : Int) ≤ 3 := by omega
     clear hpz
     go_enter Tryz.func92, Tryz.ntmps92
     go_wp2_with fail
     refine (CP.out _).mono ?_
     rintro _ _ ⟨rfl, rfl⟩
     go_wp2_with fail
     refine wp_loop_rounds 2 ?_
     rw [rounds_succ]
     go_wp2_with fail
     rw [HP3.out, rounds_succ]
     go_wp2_with fail
     go_ret
     exact ⟨rfl, rfl⟩
theorem below_eq {W V : World} {n : Nat} (h : V = W.drewN n) : Below W.heap.size W V := by rw [h]; exact Civ.below_drewN (Below.refl _ _) n
theorem digits_int (x : Int) (h0 : 0 ≤ x) (h1 : x < 1000) (w : World) :
 Calls Tryz.prog 134 #[.int .i64 x] w fun e w' => e = .returned (.string (bs (dec x.toNat))) ∧ ∃ k, w' = w.drewN k :=
 ref_digits x x.toNat (by omega) (by omega) w
set_option maxHeartbeats 2000000 in
set_option maxRecDepth 100000 in
theorem rtext_any (k d m x s : Int) (hok : Dt.ok ⟨k, d, m, x, s⟩ = true) (w : World) :
 Calls Tryz.prog 93 #[.agg #[.int .i64 k, .int .i64 d, .int .i64 m, .int .i64 x, .int .i64 s]] w fun e w' => e = .returned (.string (bs (textL ⟨k, d, m, x, s⟩))) ∧ Below w.heap.size w w' := by
 rw [Dt.ok_iff] at hok
 dsimp only at hok
 obtain ⟨⟨s0, s1⟩, hk⟩ := hok
 have hd0 : 0 ≤ d ∧ d ≤ 365 := by omega
 have CD := Lib.hid (fun w => digits_int d (by omega) (by omega) w)
 have CS := Lib.hid (fun w => ref_short s s0 s1 w)
 have HA := Lib.hid ((Below.refl _ w).alloc (Nat.le_refl _) (.cells #[.int .i64 k, .int .i64 d, .int .i64 m, .int .i64 x, .int .i64 s] 48))
 have HR := Lib.hid (rowAt_alloc w #[.int .i64 k, .int .i64 d, .int .i64 m, .int .i64 x, .int .i64 s] 48)
 have z1 := Off.dec_size d.toNat
 have z2 : (bs (shortL s)).size ≤ 10 := by rw [bs_size]; exact shortL_len s
 have b74 : (⟨#[74]⟩ : ByteArray).size = 1 := rfl
 have b77 : (⟨#[77]⟩ : ByteArray).size = 1 := rfl
 have b46 : (⟨#[46]⟩ : ByteArray).size = 1 := rfl
 have b47 : (⟨#[47]⟩ : ByteArray).size = 1 := rfl
 rcases hk with ⟨rfl, _, _, rfl, rfl⟩ | ⟨rfl, _, _, rfl, rfl⟩ | ⟨rfl, m0, m1, x0, x1, _, _⟩
 · by_cases hs : s = 7200
   · subst hs
     have HT := Lib.hid (show (⟨#[74]⟩ : ByteArray) ++ bs (dec d.toNat) = bs (textL ⟨1, d, 0, 0, 7200⟩) by
      rw [show (⟨#[74]⟩ : ByteArray) = bs [74] from rfl, bs_add]
      unfold textL
      rw [if_pos rfl, if_pos rfl]
      simp)
     obtain ⟨D, hD⟩ : ∃ D, bs (dec d.toNat) = D := ⟨_, rfl⟩
     rw [hD] at CD HT z1
     clear CS
     clear hD
     go_enter Tryz.func93, Tryz.ntmps93
     go_wp2_with fail
     refine (CD.out _).mono ?_
     rintro _ V ⟨rfl, n1, hV⟩
     have hb := below_eq hV
     have hr := HR.out.keep hb
     have c0 := hr.2 0
     have c2 := hr.2 2
     have c3 := hr.2 3
     have c4 := hr.2 4
     have HB := Lib.hid (HA.out.trans (hb.mono HA.out.size))
     clear hb hr hV
     go_wp2_with fail
     go_ret
     exact ⟨congrArg (fun s => Ending.returned (Value.string s)) HT.out, by simpa using HB.out⟩
   · skip
     have HT := Lib.hid (show ((⟨#[74]⟩ : ByteArray) ++ bs (dec d.toNat)) ++ ⟨#[47]⟩ ++ bs (shortL s) = bs (textL ⟨1, d, 0, 0, s⟩) by
      rw [show (⟨#[74]⟩ : ByteArray) = bs [74] from rfl, show (⟨#[47]⟩ : ByteArray) = bs [47] from rfl, bs_add, bs_add, bs_add]
      unfold textL
      rw [if_pos rfl, if_neg hs]
      simp)
     obtain ⟨D, hD⟩ : ∃ D, bs (dec d.toNat) = D := ⟨_, rfl⟩
     rw [hD] at CD HT z1
     obtain ⟨S, hS⟩ : ∃ D, bs (shortL s) = D := ⟨_, rfl⟩
     rw [hS] at CS HT z2
     have t0 : (s != 7200) = true := by rw [bne_iff_ne]; exact hs
     clear hS hs
     clear hD
     go_enter Tryz.func93, Tryz.ntmps93
     go_wp2_with fail
     refine (CD.out _).mono ?_
     rintro _ V ⟨rfl, n1, hV⟩
     have hb := below_eq hV
     have hr := HR.out.keep hb
     have c0 := hr.2 0
     have c2 := hr.2 2
     have c3 := hr.2 3
     have c4 := hr.2 4
     have HB := Lib.hid (HA.out.trans (hb.mono HA.out.size))
     clear hb hr hV
     go_wp2_with fail
     refine (CS.out _).mono ?_
     rintro _ _ ⟨rfl, rfl⟩
     go_wp2_with fail
     go_ret
     exact ⟨congrArg (fun s => Ending.returned (Value.string s)) HT.out, by simpa using HB.out⟩
 · by_cases hs : s = 7200
   · subst hs
     have HT := Lib.hid (show bs (dec d.toNat) = bs (textL ⟨2, d, 0, 0, 7200⟩) by
      skip
      unfold textL
      rw [if_neg (show ¬ (2 : Int) = 1 by decide), if_neg (show ¬ (2 : Int) = 3 by decide), if_pos rfl]
      simp)
     obtain ⟨D, hD⟩ : ∃ D, bs (dec d.toNat) = D := ⟨_, rfl⟩
     rw [hD] at CD HT z1
     clear CS
     clear hD
     go_enter Tryz.func93, Tryz.ntmps93
     go_wp2_with fail
     refine (CD.out _).mono ?_
     rintro _ V ⟨rfl, n1, hV⟩
     have hb := below_eq hV
     have hr := HR.out.keep hb
     have c0 := hr.2 0
     have c2 := hr.2 2
     have c3 := hr.2 3
     have c4 := hr.2 4
     have HB := Lib.hid (HA.out.trans (hb.mono HA.out.size))
     clear hb hr hV
     go_wp2_with fail
     go_ret
     exact ⟨congrArg (fun s => Ending.returned (Value.string s)) HT.out, by simpa using HB.out⟩
   · skip
     have HT := Lib.hid (show (bs (dec d.toNat)) ++ ⟨#[47]⟩ ++ bs (shortL s) = bs (textL ⟨2, d, 0, 0, s⟩) by
      rw [show (⟨#[47]⟩ : ByteArray) = bs [47] from rfl, bs_add, bs_add]
      unfold textL
      rw [if_neg (show ¬ (2 : Int) = 1 by decide), if_neg (show ¬ (2 : Int) = 3 by decide), if_neg hs]
      simp)
     obtain ⟨D, hD⟩ : ∃ D, bs (dec d.toNat) = D := ⟨_, rfl⟩
     rw [hD] at CD HT z1
     obtain ⟨S, hS⟩ : ∃ D, bs (shortL s) = D := ⟨_, rfl⟩
     rw [hS] at CS HT z2
     have t0 : (s != 7200) = true := by rw [bne_iff_ne]; exact hs
     clear hS hs
     clear hD
     go_enter Tryz.func93, Tryz.ntmps93
     go_wp2_with fail
     refine (CD.out _).mono ?_
     rintro _ V ⟨rfl, n1, hV⟩
     have hb := below_eq hV
     have hr := HR.out.keep hb
     have c0 := hr.2 0
     have c2 := hr.2 2
     have c3 := hr.2 3
     have c4 := hr.2 4
     have HB := Lib.hid (HA.out.trans (hb.mono HA.out.size))
     clear hb hr hV
     go_wp2_with fail
     refine (CS.out _).mono ?_
     rintro _ _ ⟨rfl, rfl⟩
     go_wp2_with fail
     go_ret
     exact ⟨congrArg (fun s => Ending.returned (Value.string s)) HT.out, by simpa using HB.out⟩
 · have z3 := Off.dec_size m.toNat
   have z4 := Off.dec_size x.toNat
   by_cases hs : s = 7200
   · subst hs
     have HT := Lib.hid (show (⟨#[77]⟩ : ByteArray) ++ bs (dec m.toNat) ++ ⟨#[46]⟩ ++ bs (dec x.toNat) ++ ⟨#[46]⟩ ++ bs (dec d.toNat) = bs (textL ⟨3, d, m, x, 7200⟩) by
      rw [show (⟨#[77]⟩ : ByteArray) = bs [77] from rfl, show (⟨#[46]⟩ : ByteArray) = bs [46] from rfl, bs_add, bs_add, bs_add, bs_add, bs_add]
      unfold textL
      rw [if_neg (show ¬ (3 : Int) = 1 by decide), if_pos rfl, if_pos rfl]
      simp)
     obtain ⟨D, hD⟩ : ∃ D, bs (dec d.toNat) = D := ⟨_, rfl⟩
     rw [hD] at CD HT z1
     clear CS
     clear hD
     go_enter Tryz.func93, Tryz.ntmps93
     go_wp2_with fail
     refine (CD.out _).mono ?_
     rintro _ V ⟨rfl, n1, hV⟩
     have hb := below_eq hV
     have hr := HR.out.keep hb
     have c0 := hr.2 0
     have c2 := hr.2 2
     have c3 := hr.2 3
     have c4 := hr.2 4
     have HB := Lib.hid (HA.out.trans (hb.mono HA.out.size))
     clear hb hr hV
     go_wp2_with fail
     go_quiet ((go_at_call 134; exact Calls.quiet_of (digits_int _ (by omega) (by omega) _)))
     have HB2 := Lib.hid (Civ.below_drewN HB.out nq)
     go_wp2_with fail
     go_ret
     exact ⟨congrArg (fun s => Ending.returned (Value.string s)) HT.out, by simpa using HB2.out⟩
   · skip
     have HT := Lib.hid (show ((⟨#[77]⟩ : ByteArray) ++ bs (dec m.toNat) ++ ⟨#[46]⟩ ++ bs (dec x.toNat) ++ ⟨#[46]⟩ ++ bs (dec d.toNat)) ++ ⟨#[47]⟩ ++ bs (shortL s) = bs (textL ⟨3, d, m, x, s⟩) by
      rw [show (⟨#[77]⟩ : ByteArray) = bs [77] from rfl, show (⟨#[46]⟩ : ByteArray) = bs [46] from rfl, show (⟨#[47]⟩ : ByteArray) = bs [47] from rfl, bs_add, bs_add, bs_add, bs_add, bs_add, bs_add, bs_add]
      unfold textL
      rw [if_neg (show ¬ (3 : Int) = 1 by decide), if_pos rfl, if_neg hs]
      simp)
     obtain ⟨D, hD⟩ : ∃ D, bs (dec d.toNat) = D := ⟨_, rfl⟩
     rw [hD] at CD HT z1
     obtain ⟨S, hS⟩ : ∃ D, bs (shortL s) = D := ⟨_, rfl⟩
     rw [hS] at CS HT z2
     have t0 : (s != 7200) = true := by rw [bne_iff_ne]; exact hs
     clear hS hs
     clear hD
     go_enter Tryz.func93, Tryz.ntmps93
     go_wp2_with fail
     refine (CD.out _).mono ?_
     rintro _ V ⟨rfl, n1, hV⟩
     have hb := below_eq hV
     have hr := HR.out.keep hb
     have c0 := hr.2 0
     have c2 := hr.2 2
     have c3 := hr.2 3
     have c4 := hr.2 4
     have HB := Lib.hid (HA.out.trans (hb.mono HA.out.size))
     clear hb hr hV
     go_wp2_with fail
     go_quiet ((go_at_call 134; exact Calls.quiet_of (digits_int _ (by omega) (by omega) _)))
     have HB2 := Lib.hid (Civ.below_drewN HB.out nq)
     go_wp2_with fail
     refine (CS.out _).mono ?_
     rintro _ _ ⟨rfl, rfl⟩
     go_wp2_with fail
     go_ret
     exact ⟨congrArg (fun s => Ending.returned (Value.string s)) HT.out, by simpa using HB2.out⟩
end Go.Proofs.YtkpmmabdpeobaaaGreatDoor.Px
namespace Go.Proofs.YtkpmmabdpeobaaaGreatDoor.Px
open Go.RowKit
open Civ
open Off (dec two printN printO bs_add)
theorem rprint_bad (p : Pos) (ha : p.std.size ≤ 1000000) (hc : p.dst.size ≤ 1000000) (hp : p.ok = false) (w : World) :
 Calls Tryz.prog 45 #[p.val] w fun e w' => e = .returned (.tuple #[.string (bs []), .int .i64 2]) ∧ Below w.heap.size w w' := by
 have CC := Lib.hid (ref_check p ha hc)
 rw [hp] at CC
 obtain ⟨a, b, c, d, ⟨k1, d1, m1, w1, s1⟩, ⟨k2, d2, m2, w2, s2⟩⟩ := p
 unfold Pos.val at CC ⊢
 dsimp only at CC ⊢
 have HA := Lib.hid ((Below.refl _ w).alloc (Nat.le_refl _) (.cells #[.string a, .int .i64 b, .string c, .int .i64 d, .int .i64 k1, .int .i64 d1, .int .i64 m1, .int .i64 w1, .int .i64 s1, .int .i64 k2, .int .i64 d2, .int .i64 m2, .int .i64 w2, .int .i64 s2] 50))
 clear hp ha hc
 go_enter Tryz.func45, Tryz.ntmps45
 go_wp2_with fail
 refine (CC.out _).mono ?_
 rintro _ V ⟨rfl, hb⟩
 rw [show codeE false = 2 from rfl]
 have HB := Lib.hid (HA.out.trans (hb.mono HA.out.size))
 clear hb
 go_wp2_with fail
 go_ret2
 exact ⟨rfl, HB.out⟩
set_option maxHeartbeats 4000000 in
set_option maxRecDepth 100000 in
theorem rprint_cells (a c : List UInt8) (b d k1 d1 m1 w1 s1 k2 d2 m2 w2 s2 : Int) (hp : Pos.ok ⟨bs a, b, bs c, d, ⟨k1, d1, m1, w1, s1⟩, ⟨k2, d2, m2, w2, s2⟩⟩ = true) (ha : a.length ≤ 1000) (hc : c.length ≤ 1000) (w : World) :
 Calls Tryz.prog 45 #[.agg #[.string (bs a), .int .i64 b, .string (bs c), .int .i64 d, .int .i64 k1, .int .i64 d1, .int .i64 m1, .int .i64 w1, .int .i64 s1, .int .i64 k2, .int .i64 d2, .int .i64 m2, .int .i64 w2, .int .i64 s2]] w fun e w' =>
  e = .returned (.tuple #[.string (bs (printL ⟨bs a, b, bs c, d, ⟨k1, d1, m1, w1, s1⟩, ⟨k2, d2, m2, w2, s2⟩⟩)), .int .i64 0]) ∧ Below w.heap.size w w' := by
 have CC := Lib.hid (ref_check ⟨bs a, b, bs c, d, ⟨k1, d1, m1, w1, s1⟩, ⟨k2, d2, m2, w2, s2⟩⟩ (by rw [bs_size]; omega) (by rw [bs_size]; omega))
 rw [hp] at CC
 unfold Pos.val at CC
 dsimp only at CC
 obtain ⟨hia, hb0, hb1, hcs⟩ := ok_list hp
 have CQ := Lib.hid (fun w => ref_quote a ha hia w)
 have CS := Lib.hid (fun w => ref_short (-b) (by omega) (by omega) w)
 have zq : (bs (quoteL a)).size ≤ 1002 := by rw [bs_size]; have := quoteL_len a; omega
 have zs : (bs (shortL (-b))).size ≤ 10 := by rw [bs_size]; exact shortL_len _
 have HL := Lib.hid (show bs (printL ⟨bs a, b, bs c, d, ⟨k1, d1, m1, w1, s1⟩, ⟨k2, d2, m2, w2, s2⟩⟩) = bs (if c.isEmpty then quoteL a ++ shortL (-b) else quoteL a ++ shortL (-b) ++ quoteL c ++ (if d = b + 3600 then [] else shortL (-d)) ++ 44 :: textL ⟨k1, d1, m1, w1, s1⟩ ++ 44 :: textL ⟨k2, d2, m2, w2, s2⟩) from rfl)
 obtain ⟨OUT, hOUT⟩ : ∃ x, bs (printL ⟨bs a, b, bs c, d, ⟨k1, d1, m1, w1, s1⟩, ⟨k2, d2, m2, w2, s2⟩⟩) = x := ⟨_, rfl⟩
 rw [hOUT] at HL ⊢
 have HA := Lib.hid ((Below.refl _ w).alloc (Nat.le_refl _) (.cells #[.string (bs a), .int .i64 b, .string (bs c), .int .i64 d, .int .i64 k1, .int .i64 d1, .int .i64 m1, .int .i64 w1, .int .i64 s1, .int .i64 k2, .int .i64 d2, .int .i64 m2, .int .i64 w2, .int .i64 s2] 50))
 have HR := Lib.hid (rowAt_alloc w #[.string (bs a), .int .i64 b, .string (bs c), .int .i64 d, .int .i64 k1, .int .i64 d1, .int .i64 m1, .int .i64 w1, .int .i64 s1, .int .i64 k2, .int .i64 d2, .int .i64 m2, .int .i64 w2, .int .i64 s2] 50)
 have hcat1 : ¬ 9223372036854775807 < (bs (quoteL a)).size + (bs (shortL (-b))).size := by omega
 have q1 : IntKind.i64.wrap (-b) = -b := IntWalk.i64_in _ (by omega)
 clear hp hOUT hia
 go_enter Tryz.func45, Tryz.ntmps45
 go_wp2_with fail
 refine (CC.out _).mono ?_
 rintro _ V ⟨rfl, hb⟩
 rw [show codeE true = 0 from rfl]
 have HB := Lib.hid (HA.out.trans (hb.mono HA.out.size))
 have HRV := Lib.hid (HR.out.keep hb)
 obtain ⟨c0, c1, c2, c3, c4, c5, c6, c7, c8, c9, c10, c11, c12, c13⟩ := (HR.out.keep hb).pos
 clear hb
 go_wp2_with fail
 go_cut [4] (fun v wx => v = .string (bs (quoteL a) ++ bs (shortL (-b))) ∧ Below V.heap.size V wx)
 case first =>
  go_quiet ((first | (go_at_call 91; exact Calls.quiet_of_same ((CQ.out _).mono fun _ _ h => ⟨h.1, h.2.symm⟩)) | (go_at_call 92; exact Calls.quiet_of_same ((CS.out _).mono fun _ _ h => ⟨h.1, h.2.symm⟩))))
  go_wp2_with fail
  go_meet
  exact ⟨rfl, Civ.below_drewN (Below.refl _ _) nq⟩
 case rest =>
  obtain ⟨rfl, hb⟩ := hcut
  have hQ : bs (quoteL a) ++ bs (shortL (-b)) = bs (quoteL a ++ shortL (-b)) := bs_add _ _
  obtain ⟨A, hA⟩ : ∃ A, quoteL a ++ shortL (-b) = A := ⟨_, rfl⟩
  rw [hQ, hA]
  rw [hA] at HL
  have zA : (bs A).size ≤ 1012 := by
   have e1 := bs_size (quoteL a)
   have e2 := bs_size (shortL (-b))
   rw [← hA, bs_size, List.length_append]; omega
  have HBC := Lib.hid (HB.out.trans (hb.mono HB.out.size))
  have HRC := Lib.hid (HRV.out.keep hb)
  clear c0 c1 c2 c3 c4 c5 c6 c7 c8 c9 c10 c11 c12 c13
  obtain ⟨c0, c1, c2, c3, c4, c5, c6, c7, c8, c9, c10, c11, c12, c13⟩ := (HRV.out.keep hb).pos
  clear hb hQ hA hcat1 zq zs CQ CS CC
  rcases hcs with rfl | ⟨hne, hic, hd0, hd1, hx, hy⟩
  · have e1 : (bs []).toList.isEmpty = true := (Off.bs_emp rfl).1
    have e2 : (bs []).toList = [] := (Off.bs_emp rfl).2
    go_wp2_with fail
    go_ret2
    exact ⟨by rw [HL.out]; rfl, HBC.out⟩
  · have e1 : (bs c).toList.isEmpty = false := Off.bs_full hne
    have hl : c.isEmpty = false := by simpa using hne
    rw [hl, if_neg (by decide)] at HL
    have CQ := Lib.hid (fun w => ref_quote c hc hic w)
    have CS := Lib.hid (fun w => ref_short (-d) (by omega) (by omega) w)
    have zq : (bs (quoteL c)).size ≤ 1002 := by rw [bs_size]; have := quoteL_len c; omega
    have zs : (bs (shortL (-d))).size ≤ 10 := by rw [bs_size]; exact shortL_len _
    have C1 := Lib.hid (fun w => rtext_any k1 d1 m1 w1 s1 hx w)
    have C2 := Lib.hid (fun w => rtext_any k2 d2 m2 w2 s2 hy w)
    have z1 : (bs (textL ⟨k1, d1, m1, w1, s1⟩)).size ≤ 23 := by rw [bs_size]; exact textL_len _
    have z2 : (bs (textL ⟨k2, d2, m2, w2, s2⟩)).size ≤ 23 := by rw [bs_size]; exact textL_len _
    clear hl hne hic hx hy
    go_wp2_with fail
    refine (CQ.out _).mono ?_
    rintro _ _ ⟨rfl, rfl⟩
    have HBD := HBC
    have HRD := HRC
    have hcat2 : ¬ 9223372036854775807 < (bs A).size + (bs (quoteL c)).size := by omega
    have hAC : bs A ++ bs (quoteL c) = bs (A ++ quoteL c) := bs_add _ _
    obtain ⟨T1, hT1⟩ : ∃ T, textL ⟨k1, d1, m1, w1, s1⟩ = T := ⟨_, rfl⟩
    obtain ⟨T2, hT2⟩ : ∃ T, textL ⟨k2, d2, m2, w2, s2⟩ = T := ⟨_, rfl⟩
    rw [hT1] at C1 z1 HL
    rw [hT2] at C2 z2 HL
    have HAC := Lib.hid hAC
    have zAC : (bs (A ++ quoteL c)).size ≤ 2014 := by
     have e1 := bs_size A
     have e2 := bs_size (quoteL c)
     rw [bs_size, List.length_append]; omega
    obtain ⟨B, hB⟩ : ∃ B, A ++ quoteL c = B := ⟨_, rfl⟩
    rw [hB] at HAC HL zAC
    clear hAC hT1 hT2 hB
    by_cases hd : d = b + 3600
    · skip
      have t0 : (d != b + 3600) = false := by rw [bne_eq_false_iff_eq]; exact hd
      rw [if_pos hd, List.append_nil] at HL
      clear hd CS zs
      have HF := Lib.hid (show bs B ++ ⟨#[44]⟩ ++ bs T1 ++ ⟨#[44]⟩ ++ bs T2 = OUT by
       rw [HL.out, show (⟨#[44]⟩ : ByteArray) = bs [44] from rfl, bs_add, bs_add, bs_add, bs_add]; simp)
      have k44 : (⟨#[44]⟩ : ByteArray).size = 1 := rfl
      have hcA : ¬ 9223372036854775807 < (bs B).size + 1 := by omega
      have hcB : ¬ 9223372036854775807 < (bs B).size + 1 + (bs T1).size := by omega
      have hcC : ¬ 9223372036854775807 < (bs B).size + 1 + (bs T1).size + 1 := by omega
      have hcD : ¬ 9223372036854775807 < (bs B).size + 1 + (bs T1).size + 1 + (bs T2).size := by omega
      go_wp2_with fail
      rw [HAC.out]
      go_region_held3 (fun w' => w'.cell? ⟨w.heap.size, 4, none⟩ = some (.int .i64 k1) ∧ w'.cell? ⟨w.heap.size, 5, none⟩ = some (.int .i64 d1) ∧ w'.cell? ⟨w.heap.size, 6, none⟩ = some (.int .i64 m1) ∧ w'.cell? ⟨w.heap.size, 7, none⟩ = some (.int .i64 w1) ∧ w'.cell? ⟨w.heap.size, 8, none⟩ = some (.int .i64 s1) ∧ w'.cell? ⟨w.heap.size, 9, none⟩ = some (.int .i64 k2) ∧ w'.cell? ⟨w.heap.size, 10, none⟩ = some (.int .i64 d2) ∧ w'.cell? ⟨w.heap.size, 11, none⟩ = some (.int .i64 m2) ∧ w'.cell? ⟨w.heap.size, 12, none⟩ = some (.int .i64 w2) ∧ w'.cell? ⟨w.heap.size, 13, none⟩ = some (.int .i64 s2) ∧ Below wc.heap.size wc w')
       (first | exact ptB HRD.out HX1.out | exact ptB HRD.out HX0.out | exact ptB HRD.out (bdrew _))
       (first
        | (go_at_call_of 93 (Value.agg #[.int .i64 k1, .int .i64 d1, .int .i64 m1, .int .i64 w1, .int .i64 s1]); refine (C1.out _).mono ?_; rintro e X ⟨rfl, hb⟩; have HX1 := Lib.hid (HX0.out.trans (hb.mono HX0.out.size)); clear hb)
        | (go_at_call_of 93 (Value.agg #[.int .i64 k2, .int .i64 d2, .int .i64 m2, .int .i64 w2, .int .i64 s2]); refine (C2.out _).mono ?_; rintro e X ⟨rfl, hb⟩; have HX1 := Lib.hid (HX0.out.trans (hb.mono HX0.out.size)); clear hb)
        | (go_at_call_of 93 (Value.agg #[.int .i64 k1, .int .i64 d1, .int .i64 m1, .int .i64 w1, .int .i64 s1]); refine (C1.out _).mono ?_; rintro e X ⟨rfl, hb⟩; have HX0 : Hid (Below wc.heap.size wc X) := Lib.hid (below_over hb rfl rfl rfl rfl); clear hb)
        | (go_at_call_of 93 (Value.agg #[.int .i64 k2, .int .i64 d2, .int .i64 m2, .int .i64 w2, .int .i64 s2]); refine (C2.out _).mono ?_; rintro e X ⟨rfl, hb⟩; have HX0 : Hid (Below wc.heap.size wc X) := Lib.hid (below_over hb rfl rfl rfl rfl); clear hb))
      all_goals
       go_wp2_with fail
       go_ret2
       exact ⟨congrArg (fun s => Ending.returned (.tuple #[Value.string s, .int .i64 0])) HF.out, HBD.out.trans (HX1.out.mono HBD.out.size)⟩
    · skip
      have t0 : (d != b + 3600) = true := by rw [bne_iff_ne]; exact hd
      rw [if_neg hd] at HL
      clear hd
      have q2 : IntKind.i64.wrap (-d) = -d := IntWalk.i64_in _ (by omega)
      have hcat3 : ¬ 9223372036854775807 < (bs B).size + (bs (shortL (-d))).size := by omega
      have HBS := Lib.hid (show bs B ++ bs (shortL (-d)) = bs (B ++ shortL (-d)) from bs_add _ _)
      have zBS : (bs (B ++ shortL (-d))).size ≤ 2024 := by
       have e1 := bs_size B
       have e2 := bs_size (shortL (-d))
       rw [bs_size, List.length_append]; omega
      obtain ⟨C, hC⟩ : ∃ C, B ++ shortL (-d) = C := ⟨_, rfl⟩
      rw [hC] at HBS HL zBS
      clear hC
      have HF := Lib.hid (show bs C ++ ⟨#[44]⟩ ++ bs T1 ++ ⟨#[44]⟩ ++ bs T2 = OUT by
       rw [HL.out, show (⟨#[44]⟩ : ByteArray) = bs [44] from rfl, bs_add, bs_add, bs_add, bs_add]; simp)
      have k44 : (⟨#[44]⟩ : ByteArray).size = 1 := rfl
      have hcA : ¬ 9223372036854775807 < (bs C).size + 1 := by omega
      have hcB : ¬ 9223372036854775807 < (bs C).size + 1 + (bs T1).size := by omega
      have hcC : ¬ 9223372036854775807 < (bs C).size + 1 + (bs T1).size + 1 := by omega
      have hcD : ¬ 9223372036854775807 < (bs C).size + 1 + (bs T1).size + 1 + (bs T2).size := by omega
      go_wp2_with fail
      rw [HAC.out]
      refine (CS.out _).mono ?_
      rintro _ _ ⟨rfl, rfl⟩
      have HBE := HBD
      have HRE := HRD
      go_wp2_with fail
      rw [HBS.out]
      go_region_held3 (fun w' => w'.cell? ⟨w.heap.size, 4, none⟩ = some (.int .i64 k1) ∧ w'.cell? ⟨w.heap.size, 5, none⟩ = some (.int .i64 d1) ∧ w'.cell? ⟨w.heap.size, 6, none⟩ = some (.int .i64 m1) ∧ w'.cell? ⟨w.heap.size, 7, none⟩ = some (.int .i64 w1) ∧ w'.cell? ⟨w.heap.size, 8, none⟩ = some (.int .i64 s1) ∧ w'.cell? ⟨w.heap.size, 9, none⟩ = some (.int .i64 k2) ∧ w'.cell? ⟨w.heap.size, 10, none⟩ = some (.int .i64 d2) ∧ w'.cell? ⟨w.heap.size, 11, none⟩ = some (.int .i64 m2) ∧ w'.cell? ⟨w.heap.size, 12, none⟩ = some (.int .i64 w2) ∧ w'.cell? ⟨w.heap.size, 13, none⟩ = some (.int .i64 s2) ∧ Below wc.heap.size wc w')
       (first | exact ptB HRE.out HX1.out | exact ptB HRE.out HX0.out | exact ptB HRE.out (bdrew _))
       (first
        | (go_at_call_of 93 (Value.agg #[.int .i64 k1, .int .i64 d1, .int .i64 m1, .int .i64 w1, .int .i64 s1]); refine (C1.out _).mono ?_; rintro e X ⟨rfl, hb⟩; have HX1 := Lib.hid (HX0.out.trans (hb.mono HX0.out.size)); clear hb)
        | (go_at_call_of 93 (Value.agg #[.int .i64 k2, .int .i64 d2, .int .i64 m2, .int .i64 w2, .int .i64 s2]); refine (C2.out _).mono ?_; rintro e X ⟨rfl, hb⟩; have HX1 := Lib.hid (HX0.out.trans (hb.mono HX0.out.size)); clear hb)
        | (go_at_call_of 93 (Value.agg #[.int .i64 k1, .int .i64 d1, .int .i64 m1, .int .i64 w1, .int .i64 s1]); refine (C1.out _).mono ?_; rintro e X ⟨rfl, hb⟩; have HX0 : Hid (Below wc.heap.size wc X) := Lib.hid (below_over hb rfl rfl rfl rfl); clear hb)
        | (go_at_call_of 93 (Value.agg #[.int .i64 k2, .int .i64 d2, .int .i64 m2, .int .i64 w2, .int .i64 s2]); refine (C2.out _).mono ?_; rintro e X ⟨rfl, hb⟩; have HX0 : Hid (Below wc.heap.size wc X) := Lib.hid (below_over hb rfl rfl rfl rfl); clear hb))
      all_goals
       go_wp2_with fail
       go_ret2
       exact ⟨congrArg (fun s => Ending.returned (.tuple #[Value.string s, .int .i64 0])) HF.out, HBE.out.trans (HX1.out.mono HBE.out.size)⟩
theorem rprt_any (p : Pos) (ha : p.std.size ≤ 1000) (hc : p.dst.size ≤ 1000) (w : World) :
 Calls Tryz.prog 45 #[p.val] w fun e w' => e = .returned (.tuple #[.string (bs (printP p).1), .int .i64 (printP p).2]) ∧ Below w.heap.size w w' := by
 unfold printP
 cases hp : p.ok
 · rw [if_neg (by decide)]
   exact rprint_bad p (by omega) (by omega) hp w
 · rw [if_pos rfl]
   obtain ⟨a, b, c, d, ⟨k1, d1, m1, w1, s1⟩, ⟨k2, d2, m2, w2, s2⟩⟩ := p
   obtain ⟨a, rfl⟩ : ∃ l, a = bs l := ⟨a.data.toList, rfl⟩
   obtain ⟨c, rfl⟩ : ∃ l, c = bs l := ⟨c.data.toList, rfl⟩
   exact rprint_cells a c b d k1 d1 m1 w1 s1 k2 d2 m2 w2 s2 hp (by have := bs_size a; dsimp only at ha; omega) (by have := bs_size c; dsimp only at hc; omega) w
end Go.Proofs.YtkpmmabdpeobaaaGreatDoor.Px
