/- The law LinklineBack returns true for all numbers, and its tied card holds; no condition beyond the row itself. -/
import Derived.Test.YticmkjcaekhgpaaDoorLinkF
import Derived.Outline
import Derived.Deep.QuietTactic
import Derived.BigQuiet
namespace Go.Proofs.YticmkjcaekhgpaaDoor
open Go.ChangeShapes Go.WideShapes Go.ChangeAt Go.RowKit
open Lex (fieldsGo fieldsL fieldsE)

set_option maxHeartbeats 4000000 in
theorem linklineBack_walk (A : List (List UInt8)) (a : Option Addr) (ca : Nat) (hA : A.length ≤ ca) (hAm : ca ≤ maxLen) (B : List (List UInt8)) (b : Option Addr) (cb : Nat) (hB : B.length ≤ cb) (hBm : cb ≤ maxLen)
    (C : List UInt8) (c : Option Addr) (cc : Nat) (hC : C.length ≤ cc) (hCm : cc ≤ maxLen) (W : World) (ra : RowsAt W a A) (rb : RowsAt W b B) (rc : BytesAt W c C) :
    Calls Tryd.prog 10 #[.slice a A.length ca, .slice b B.length cb, .slice c C.length cc] W fun e w' => e = .returned (.bool true) ∧ Below W.heap.size W w' := by
  obtain ⟨s, hs⟩ : ∃ s, bytesOf (zoneL A) = s := ⟨_, rfl⟩
  obtain ⟨t, ht⟩ : ∃ t, bytesOf (zoneL B) = t := ⟨_, rfl⟩
  obtain ⟨l, hl⟩ : ∃ l, bytesOf (lettersOf C 0 20) = l := ⟨_, rfl⟩
  obtain ⟨u, hu⟩ : ∃ u, (⟨#[83]⟩ : ByteArray) ++ l = u := ⟨_, rfl⟩
  have sl : s.data.toList = zoneL A := by rw [← hs]; rfl
  have tl : t.data.toList = zoneL B := by rw [← ht]; rfl
  have ul : u.data.toList = setL C := by rw [← hu, ← hl, ByteArray.data_append, Array.toList_append]; rfl
  have sz : s.size ≤ 59 := by rw [← len_eq, sl]; exact (zoneL_len A).2
  have tz : t.size ≤ 59 := by rw [← len_eq, tl]; exact (zoneL_len B).2
  have uz : u.size ≤ 21 := by rw [← len_eq, ul]; exact (setL_len C).2
  have lz : l.size ≤ 20 := by rw [← hl]; show (lettersOf C 0 20).length ≤ 20; rw [lettersOf_length]; unfold lettN; omega
  have sm : s.size ≤ maxLen := by unfold maxLen; omega
  have tm : t.size ≤ maxLen := by unfold maxLen; omega
  have um : u.size ≤ maxLen := by unfold maxLen; omega
  have so : zoneOk s.data.toList = true := by rw [sl]; exact zoneL_ok A
  have to' : zoneOk t.data.toList = true := by rw [tl]; exact zoneL_ok B
  have uo : setOk u.data.toList = true := by rw [ul]; exact setL_ok C
  obtain ⟨o, ho⟩ : ∃ o, bytesOf (lineL [76, 105, 110, 107] zoneOk [s, t]) = o := ⟨_, rfl⟩
  obtain ⟨o2, ho2⟩ : ∃ o, bytesOf (lineL [83, 104, 105, 102, 116] setOk [u]) = o := ⟨_, rfl⟩
  have ol : o.data.toList = [76, 105, 110, 107] ++ 32 :: (zoneL A ++ 32 :: zoneL B) := by
    rw [← ho, bytesOf_list, ← sl, ← tl]; unfold lineL; simp [so, to', Lib.join]
  have o2l : o2.data.toList = [83, 104, 105, 102, 116] ++ 32 :: setL C := by
    rw [← ho2, bytesOf_list, ← ul]; unfold lineL; simp [uo, Lib.join]
  have oz : o.size ≤ 300 := by
    rw [← len_eq, ol]
    have := zoneL_len A
    have := zoneL_len B
    simp; omega
  have o2z : o2.size ≤ 300 := by
    rw [← len_eq, o2l]
    have := setL_len C
    simp; omega
  have w1 : ∀ c ∈ ([76, 105, 110, 107] : List UInt8), wordC c := by unfold wordC; decide
  have w2 : ∀ c ∈ ([83, 104, 105, 102, 116] : List UInt8), wordC c := by unfold wordC; decide
  have g1 : fieldsGo o.data.toList [] [] false false = some [[76, 105, 110, 107], zoneL A, zoneL B] := by
    rw [ol]; exact go_three _ _ _ w1 (zone_word A) (zone_word B) (by simp) (zone_ne A) (zone_ne B)
  have g2 : fieldsGo o2.data.toList [] [] false false = some [[83, 104, 105, 102, 116], setL C] := by
    rw [o2l]; exact go_two _ _ w2 (set_word C) (by simp) (set_ne C)
  have b0 : bytesOf [76, 105, 110, 107] = ⟨#[76, 105, 110, 107]⟩ := rfl
  have b1 : bytesOf [83, 104, 105, 102, 116] = ⟨#[83, 104, 105, 102, 116]⟩ := rfl
  have bu : bytesOf (setL C) = u := (bytesOf_eq ul).symm
  have HS := Lib.hid (show ∀ V : World, ∀ g cap : Nat, 0 < V.heap.size → (∀ j, j < 3 → V.cell? ⟨g, j, none⟩ = some (.string (bytesOf ([[76, 105, 110, 107], zoneL A, zoneL B].getD j [])))) →
      V.cell? ⟨g, 0, none⟩ = some (.string ⟨#[76, 105, 110, 107]⟩) ∧ StrsAt V (some ⟨g, 1, none⟩) [s, t] by
    intro V g cap _ h
    refine ⟨h 0 (by omega), .inr ⟨g, 1, rfl, fun i hi => ?_⟩⟩
    have hi' : i < 2 := hi
    rcases (show i = 0 ∨ i = 1 by omega) with rfl | rfl
    · exact ⟨by rw [← hs]; exact h 1 (by omega), sm⟩
    · exact ⟨by rw [← ht]; exact h 2 (by omega), tm⟩)
  have HU := Lib.hid (show ∀ V : World, ∀ g cap : Nat, 0 < V.heap.size → (∀ j, j < 2 → V.cell? ⟨g, j, none⟩ = some (.string (bytesOf ([[83, 104, 105, 102, 116], setL C].getD j [])))) →
      V.cell? ⟨g, 0, none⟩ = some (.string ⟨#[83, 104, 105, 102, 116]⟩) ∧ StrsAt V (some ⟨g, 1, none⟩) [u] by
    intro V g cap _ h
    refine ⟨h 0 (by omega), .inr ⟨g, 1, rfl, fun i hi => ?_⟩⟩
    have hi' : i < 1 := hi
    obtain rfl : i = 0 := by omega
    exact ⟨by rw [← bu]; exact h 1 (by omega), um⟩)
  have C21a := Lib.hid (zone21_is s A a ca hA hAm hs)
  have C21b := Lib.hid (zone21_is t B b cb hB hBm ht)
  have C22 := Lib.hid (letters_is l C c cc (by omega) hl)
  have C13s := Lib.hid (zone_is true s sm so)
  have C13t := Lib.hid (zone_is true t tm to')
  have C15 := Lib.hid (set_is true u um uo)
  have C29 := Lib.hid (print_any s t o 0 sm tm ho (by unfold lineE; simp [so, to']))
  have C31 := Lib.hid (printShift_any u o2 0 um ho2 (by unfold lineE; simp [uo]))
  have C34 := Lib.hid (fields_is o oz _ g1 (by simp))
  have C34b := Lib.hid (fields_is o2 o2z _ g2 (by simp))
  have he : namesE zoneOk [s, t] 2 = 0 := by rw [namesE2, so, to']; rfl
  have he2 : namesE setOk [u] 1 = 0 := by rw [namesE1, uo]; rfl
  have C25 := Lib.hid (show ∀ (g q : Nat) (V : World), StrsAt V (some ⟨g, 1, none⟩) [s, t] → Calls Tryd.prog 25 #[.slice (some ⟨g, 1, none⟩) 2 q] V fun e w' => e = .returned (.tuple #[.agg #[.string s, .string t], .int .i64 0]) ∧ Below V.heap.size V w' by
    intro g q V hh
    have := link25 [s, t] _ q V hh (by unfold maxLen; simp)
    unfold lkT lkN at this
    rw [he] at this
    exact this)
  have C27 := Lib.hid (show ∀ (g q : Nat) (V : World), StrsAt V (some ⟨g, 1, none⟩) [u] → Calls Tryd.prog 27 #[.slice (some ⟨g, 1, none⟩) 1 q] V fun e w' => e = .returned (.tuple #[.string u, .int .i64 0]) ∧ Below V.heap.size V w' by
    intro g q V hh
    have := shift27 [u] _ q V hh (by unfold maxLen; simp)
    unfold shV at this
    rw [he2] at this
    exact this)
  have RA := Lib.hid ra
  have RB := Lib.hid rb
  have RC := Lib.hid rc
  unfold maxLen at hAm hBm hCm
  clear hs ht hl sl tl ul sm tm um so to' uo ho ho2 ol o2l g1 g2 w1 w2 b0 b1 bu he he2 ra rb rc
  go_enter Tryd.func10, Tryd.ntmps10
  go_wp2_with fail
  refine (C21a.out _ RA.out).mono ?_
  rintro e V1 ⟨rfl, k1⟩
  have B1 := Lib.hid k1
  have RB1 := Lib.hid (RB.out.keep k1)
  have RC1 := Lib.hid (RC.out.keep k1)
  clear k1
  go_wp2_with fail
  refine (C21b.out _ RB1.out).mono ?_
  rintro e V2 ⟨rfl, k2⟩
  have B2 := Lib.hid (B1.out.trans (k2.mono B1.out.size))
  have RC2 := Lib.hid (RC1.out.keep k2)
  have A2 := Lib.hid (B2.out.alloc B2.out.size (.cells #[.string s, .string t] 34))
  clear k2
  go_wp2_with fail
  refine (C22.out _ ?hc2).mono ?_
  case hc2 => exact RC2.out.keep ((Below.refl V2.heap.size V2).alloc (Nat.le_refl _) (.cells #[.string s, .string t] 34))
  rintro e V3 ⟨rfl, rfl⟩
  go_wp2_with fail
  refine (C13s.out _).mono ?_
  rintro e V4 ⟨rfl, k4⟩
  have zp_4 : V2.heap.size < V4.heap.size := by have := k4.size; simp at this; omega
  have p0_4 : V4.cell? ⟨V2.heap.size, 0, none⟩ = some (.string s) := (k4.cell (p := ⟨V2.heap.size, 0, none⟩) (by simp)).trans ((World.cell?_alloc_at _ _ _ _ rfl).trans rfl)
  have p1_4 : V4.cell? ⟨V2.heap.size, 1, none⟩ = some (.string t) := (k4.cell (p := ⟨V2.heap.size, 1, none⟩) (by simp)).trans ((World.cell?_alloc_at _ _ _ _ rfl).trans rfl)
  have B4 := Lib.hid (A2.out.trans (k4.mono A2.out.size))
  clear k4
  go_wp2_with fail
  refine (C13t.out _).mono ?_
  rintro e V5 ⟨rfl, k5⟩
  have zp_5 : V2.heap.size < V5.heap.size := Nat.lt_of_lt_of_le zp_4 k5.size
  have p0_5 : V5.cell? ⟨V2.heap.size, 0, none⟩ = some (.string s) := (k5.cell (p := ⟨V2.heap.size, 0, none⟩) zp_4).trans p0_4
  have p1_5 : V5.cell? ⟨V2.heap.size, 1, none⟩ = some (.string t) := (k5.cell (p := ⟨V2.heap.size, 1, none⟩) zp_4).trans p1_4
  have B5 := Lib.hid (B4.out.trans (k5.mono B4.out.size))
  clear k5 zp_4 p0_4 p1_4
  go_wp2_with fail
  refine (C15.out _).mono ?_
  rintro e V6 ⟨rfl, k6⟩
  have zp_6 : V2.heap.size < V6.heap.size := Nat.lt_of_lt_of_le zp_5 k6.size
  have p0_6 : V6.cell? ⟨V2.heap.size, 0, none⟩ = some (.string s) := (k6.cell (p := ⟨V2.heap.size, 0, none⟩) zp_5).trans p0_5
  have p1_6 : V6.cell? ⟨V2.heap.size, 1, none⟩ = some (.string t) := (k6.cell (p := ⟨V2.heap.size, 1, none⟩) zp_5).trans p1_5
  have B6 := Lib.hid (B5.out.trans (k6.mono B5.out.size))
  clear k6 zp_5 p0_5 p1_5
  go_wp2_with fail
  refine (C29.out _).mono ?_
  rintro e V7 ⟨rfl, k7⟩
  have zp_7 : V2.heap.size < V7.heap.size := Nat.lt_of_lt_of_le zp_6 k7.size
  have p0_7 : V7.cell? ⟨V2.heap.size, 0, none⟩ = some (.string s) := (k7.cell (p := ⟨V2.heap.size, 0, none⟩) zp_6).trans p0_6
  have p1_7 : V7.cell? ⟨V2.heap.size, 1, none⟩ = some (.string t) := (k7.cell (p := ⟨V2.heap.size, 1, none⟩) zp_6).trans p1_6
  have B7 := Lib.hid (B6.out.trans (k7.mono B6.out.size))
  clear k7 zp_6 p0_6 p1_6
  go_wp2_with fail
  refine (C34.out _).mono ?_
  rintro e V8 ⟨g, cap, rfl, hg, hcap, hcapm, hcells, k8⟩
  have hw8 : 0 < V8.heap.size := by have := k8.size; omega
  obtain ⟨f0_8, hstr⟩ := HS.out V8 g cap hw8 hcells
  have ST := Lib.hid hstr
  have hcap3 : 3 ≤ cap := hcap
  have hcapx : cap ≤ 9223372036854775807 := by unfold maxLen at hcapm; omega
  clear hcells hw8 hstr hcap hcapm hg
  have zp_8 : V2.heap.size < V8.heap.size := Nat.lt_of_lt_of_le zp_7 k8.size
  have p0_8 : V8.cell? ⟨V2.heap.size, 0, none⟩ = some (.string s) := (k8.cell (p := ⟨V2.heap.size, 0, none⟩) zp_7).trans p0_7
  have p1_8 : V8.cell? ⟨V2.heap.size, 1, none⟩ = some (.string t) := (k8.cell (p := ⟨V2.heap.size, 1, none⟩) zp_7).trans p1_7
  have B8 := Lib.hid (B7.out.trans (k8.mono B7.out.size))
  clear k8 zp_7 p0_7 p1_7
  go_wp2_with fail
  refine (C25.out g _ _ ST.out).mono ?_
  rintro e V9 ⟨rfl, k9⟩
  clear f0_8
  have zp_9 : V2.heap.size < V9.heap.size := Nat.lt_of_lt_of_le zp_8 k9.size
  have p0_9 : V9.cell? ⟨V2.heap.size, 0, none⟩ = some (.string s) := (k9.cell (p := ⟨V2.heap.size, 0, none⟩) zp_8).trans p0_8
  have p1_9 : V9.cell? ⟨V2.heap.size, 1, none⟩ = some (.string t) := (k9.cell (p := ⟨V2.heap.size, 1, none⟩) zp_8).trans p1_8
  have B9 := Lib.hid (B8.out.trans (k9.mono B8.out.size))
  clear k9 zp_8 p0_8 p1_8
  have A9 := Lib.hid (B9.out.alloc B9.out.size (.cells #[.string s, .string t] 34))
  go_wp2_with fail
  refine (C31.out _).mono ?_
  rintro e V10 ⟨rfl, k10⟩
  have zq_10 : V9.heap.size < V10.heap.size := by have := k10.size; simp at this; omega
  have q0_10 : V10.cell? ⟨V9.heap.size, 0, none⟩ = some (.string s) := (k10.cell (p := ⟨V9.heap.size, 0, none⟩) (by simp)).trans ((World.cell?_alloc_at _ _ _ _ rfl).trans rfl)
  have q1_10 : V10.cell? ⟨V9.heap.size, 1, none⟩ = some (.string t) := (k10.cell (p := ⟨V9.heap.size, 1, none⟩) (by simp)).trans ((World.cell?_alloc_at _ _ _ _ rfl).trans rfl)
  have zp_10 : V2.heap.size < V10.heap.size := by omega
  have p0_10 : V10.cell? ⟨V2.heap.size, 0, none⟩ = some (.string s) := (k10.cell (p := ⟨V2.heap.size, 0, none⟩) (by simp; omega)).trans ((World.cell?_alloc_past _ _ _ zp_9).trans p0_9)
  have p1_10 : V10.cell? ⟨V2.heap.size, 1, none⟩ = some (.string t) := (k10.cell (p := ⟨V2.heap.size, 1, none⟩) (by simp; omega)).trans ((World.cell?_alloc_past _ _ _ zp_9).trans p1_9)
  have B10 := Lib.hid (A9.out.trans (k10.mono A9.out.size))
  clear k10 zp_9 p0_9 p1_9
  go_wp2_with fail
  refine (C34b.out _).mono ?_
  rintro e V11 ⟨g2, cap2, rfl, hg, hcap, hcapm, hcells, k11⟩
  have hw8 : 0 < V11.heap.size := by have := k11.size; omega
  obtain ⟨f0_11, hstr⟩ := HU.out V11 g2 cap2 hw8 hcells
  have SU := Lib.hid hstr
  have hcap2 : 2 ≤ cap2 := hcap
  have hcapx2 : cap2 ≤ 9223372036854775807 := by unfold maxLen at hcapm; omega
  clear hcells hw8 hstr hcap hcapm hg
  have zp_11 : V2.heap.size < V11.heap.size := Nat.lt_of_lt_of_le zp_10 k11.size
  have p0_11 : V11.cell? ⟨V2.heap.size, 0, none⟩ = some (.string s) := (k11.cell (p := ⟨V2.heap.size, 0, none⟩) zp_10).trans p0_10
  have p1_11 : V11.cell? ⟨V2.heap.size, 1, none⟩ = some (.string t) := (k11.cell (p := ⟨V2.heap.size, 1, none⟩) zp_10).trans p1_10
  have zq_11 : V9.heap.size < V11.heap.size := Nat.lt_of_lt_of_le zq_10 k11.size
  have q0_11 : V11.cell? ⟨V9.heap.size, 0, none⟩ = some (.string s) := (k11.cell (p := ⟨V9.heap.size, 0, none⟩) zq_10).trans q0_10
  have q1_11 : V11.cell? ⟨V9.heap.size, 1, none⟩ = some (.string t) := (k11.cell (p := ⟨V9.heap.size, 1, none⟩) zq_10).trans q1_10
  have B11 := Lib.hid (B10.out.trans (k11.mono B10.out.size))
  clear k11 zp_10 p0_10 p1_10 zq_10 q0_10 q1_10
  go_wp2_with fail
  refine (C27.out g2 _ _ SU.out).mono ?_
  rintro e V12 ⟨rfl, k12⟩
  clear f0_11
  have zp_12 : V2.heap.size < V12.heap.size := Nat.lt_of_lt_of_le zp_11 k12.size
  have p0_12 : V12.cell? ⟨V2.heap.size, 0, none⟩ = some (.string s) := (k12.cell (p := ⟨V2.heap.size, 0, none⟩) zp_11).trans p0_11
  have p1_12 : V12.cell? ⟨V2.heap.size, 1, none⟩ = some (.string t) := (k12.cell (p := ⟨V2.heap.size, 1, none⟩) zp_11).trans p1_11
  have zq_12 : V9.heap.size < V12.heap.size := Nat.lt_of_lt_of_le zq_11 k12.size
  have q0_12 : V12.cell? ⟨V9.heap.size, 0, none⟩ = some (.string s) := (k12.cell (p := ⟨V9.heap.size, 0, none⟩) zq_11).trans q0_11
  have q1_12 : V12.cell? ⟨V9.heap.size, 1, none⟩ = some (.string t) := (k12.cell (p := ⟨V9.heap.size, 1, none⟩) zq_11).trans q1_11
  have B12 := Lib.hid (B11.out.trans (k12.mono B11.out.size))
  clear k12 zp_11 p0_11 p1_11 zq_11 q0_11 q1_11
  go_wp2_with fail
  refine (works24 _).mono ?_
  rintro e V13 ⟨rfl, k13⟩
  go_wp2
  go_ret
  exact ⟨rfl, B12.out.trans (k13.mono B12.out.size)⟩

namespace linklineBack
theorem own : ownKnob Tryd.prog.godebug = none := by kernel_rfl
set_option maxRecDepth 100000 in
theorem lifted (os : Os) (started : os.Started) (H : Type) (enc : TypeId × Value → H) :
    ReturnsInHanded {} Tryd.checked os 10 .any (fun w args => (Rows.linklineBackSpec.pre enc Tryd.prog Tryd.f10 Rows.linklineBackRow.domain false w args ∧ laidMetH Tryd.prog Rows.linklineBackRow.laid w) ∧ sizedMet enc Tryd.prog Tryd.f10 (OpenSpec.ofChange Rows.linklineBackSpec) false w args)
      (Rows.linklineBackSpec.post enc Tryd.prog Tryd.f10 false true false false) := by
  refine returnsInHanded_of_change_and (C := Tryd.checked) (X := fun w _ => laidMetH Tryd.prog Rows.linklineBackRow.laid w) (fun _ _ _ hh h => h.of_heap hh) own started (by kernel_rfl) Tryd.func10
    (ChangeSpec.witness_shaped (enc := enc) (C := Tryd.checked) (os := os) (X := fun w _ => laidMetH Tryd.prog Rows.linklineBackRow.laid w) false (World.laidAll Tryd.prog os Rows.linklineBackRow.laid) #[.slice none 0 0, .slice none 0 0, .slice none 0 0] 8 (World.laidAll_os _ _ _)
      (World.shaped_of_ZipB (by kernel_rfl) (by kernel_rfl)) (by kernel_rfl) (by kernel_rfl) (by kernel_rfl)
      (by rw [MakeChecks.laidMetH_plain _ _ _ (by kernel_rfl)]; exact laidMet_laidAll _ (by kernel_rfl) (by kernel_rfl))) ?_
  intro W base args ds gs before hval0 hW _ _ _ _
  have hval : ∀ (j : Nat) t v, Tryd.f10.params[j]? = some t → args[j]? = some v → Value.okWide Tryd.prog W .any base t v := hval0
  have hW' := hW
  obtain ⟨p, q, hA0, hV, rfl, _, _⟩ := hW
  have hA : DataW.TrodAll enc Tryd.prog W 0 (fun _ => true) true Tryd.f10.params.toList args.toList ds p := hA0
  rw [Tryd.params10] at hA hval
  obtain ⟨v0, vs0, d0, ds0, p0, q0, hargs, rfl, rfl, h0, r0⟩ := trodAll_cons hA
  obtain ⟨v1, vs1, d1, ds1, p1, q1, rfl, rfl, rfl, h1, r1⟩ := trodAll_cons r0
  obtain ⟨v2, vs2, d2, ds2, p2, q2, rfl, rfl, rfl, h2, r2⟩ := trodAll_cons r1
  obtain ⟨rfl, rfl, rfl⟩ := trodAll_nil r2
  obtain rfl : args = #[v0, v1, v2] := by cases args; simp_all
  obtain ⟨rfl, rfl⟩ := trodVars_none hV
  obtain ⟨a0, c0, R0, rfl, hc0, hx0, hb0⟩ := open_rows (hval 0 24 v0 rfl rfl) h0
  obtain ⟨a1, c1, R1, rfl, hc1, hx1, hb1⟩ := open_rows (hval 1 24 v1 rfl rfl) h1
  obtain ⟨a2, c2, L2, rfl, hm2, hc2, hx2, hb2⟩ := open_bytes (hval 2 25 v2 rfl rfl) h2
  refine (linklineBack_walk R0 a0 c0 hc0 hx0 R1 a1 c1 hc1 hx1 L2 a2 c2 hc2 hx2 W hb0 hb1 hb2).mono fun e W' ⟨he, hB⟩ => ?_
  subst he
  refine ⟨_, rfl, post_law (by kernel_rfl) ?_ rfl hW' rfl rfl Tryd.underlying4 hB⟩
  rw [Tryd.params10]
  intro t ht
  have hall : ([24, 24, 25].all fun u => Tryd.prog.readableRec u && decide (u < Tryd.prog.types.size)) = true := by kernel_rfl
  have h1 := List.all_eq_true.1 hall t ht
  have h2 : Tryd.prog.readableRec t = true ∧ t < Tryd.prog.types.size := by simpa using h1
  exact h2

theorem said : Rows.LinklineBackSaid :=
  OpenClaim.holds_of_wide 10 Tryd.f10 rfl rfl rfl rfl rfl rfl rfl ⟨rfl, rfl, rfl, rfl, rfl⟩ rfl rfl rfl rfl rfl (by kernel_rfl) Tryd.func10 (by kernel_rfl)
    (of_decide_eq_true (by kernel_rfl)) (by unfold Func.isWrapper; first | (rw [if_pos (by decide +kernel)]; kernel_rfl) | (rw [if_neg (by decide +kernel)]; exact ⟨rfl, rfl⟩))
    (fun os started H enc _ => lifted os started H enc)
theorem plain (f : FuncId) (fn : Func) (hf : Tryd.pinned.checked.prog.funcNamed "analemma/analemmalaw12.LinklineBack" = some f) (hfn : Tryd.pinned.checked.prog.funcs[f]? = some fn) :
    false = Tryd.pinned.checked.prog.looks [] ∧ ∀ (j : Nat) t, fn.params[j]? = some t → Tryd.pinned.checked.prog.wantsStandIn t = false := by
  obtain rfl : f = 10 := Option.some.inj ((show Tryd.prog.funcNamed "analemma/analemmalaw12.LinklineBack" = some 10 by kernel_rfl).symm.trans hf) |>.symm
  obtain rfl : fn = Tryd.f10 := (Option.some.inj (Tryd.func10.symm.trans hfn)).symm
  refine ⟨by kernel_rfl, fun j t ht => ?_⟩
  rw [Tryd.params10] at ht
  have hm : t ∈ [24, 24, 25] := by simpa using Array.mem_of_getElem? ht
  have hall : ([24, 24, 25].all fun u => !Tryd.prog.wantsStandIn u) = true := by kernel_rfl
  exact (show Tryd.prog.wantsStandIn t = false by simpa using List.all_eq_true.1 hall t hm)
theorem card : Rows.LinklineBackCardSaid :=
  Claim7.holds_tied_plain_at .later [] _ _ _ _ said (fun _ h => by cases h) (by kernel_rfl) (fun _ h => by cases h) linklineBack_row_tie rfl ⟨rfl, rfl⟩ (by kernel_rfl) rfl plain (by kernel_rfl)
end linklineBack
#print axioms linklineBack.card
end Go.Proofs.YticmkjcaekhgpaaDoor
