/- The function works of the laws of chapter 39: the examples hold. -/
import Derived.Test.YtkfgonbopgdmgaaDoorWkA
namespace Go.Proofs.YtkfgonbopgdmgaaDoor.Px
open Go.RowKit
open Po St Tb

def exL1 : List (List UInt8) := [[76, 77, 84], []]
def exL2 : List (List UInt8) := [[76, 77, 84], [71, 77, 84], [66, 83, 84], [71, 77, 84]]
def exL3 : List (List UInt8) := [[69, 83, 84], [67, 69, 83, 84], [87, 69, 83, 84], [83, 84]]
def exL4 : List (List UInt8) := [[43, 48, 49], [43, 48, 49, 51, 48]]
theorem ex1 : abbrsE exL1 = 2 := by kernel_rfl
theorem ex52 : abbrsE (namesL 52) = 7 := by kernel_rfl
theorem ex51 : abbrsE (namesL 51) = 0 := by kernel_rfl
theorem ex51n : (abbrsA (namesL 51)).length = 51 := by unfold abbrsA; rw [ex51, if_pos rfl, List.length_map, namesL_len]
theorem namesL_all {n : Nat} (hn : n ≤ 100) : ∀ l ∈ namesL n, l.length = 4 := by
  intro l hl
  unfold namesL at hl
  obtain ⟨i, hi, rfl⟩ := List.mem_map.1 hl
  have := name_len (i := i) (by have := List.mem_range.1 hi; omega)
  unfold nameL
  rw [List.length_cons, this]
set_option maxHeartbeats 8000000 in
set_option maxRecDepth 100000 in
theorem works39_any (W : World) (hE : EnvAt W) : Calls Tryd.prog 9 #[] W fun e w' => e = .returned (.bool true) ∧ Below W.heap.size W w' := by
  have HE := Lib.hid hE
  have K0 := Lib.hid ((Kp.start W).allocAt W.heap.size rfl (.cells #[.string ⟨#[76, 77, 84]⟩, .string ⟨#[]⟩] 9))
  clear hE
  go_enter Tryd.func9, Tryd.ntmps9
  go_wp2_with fail
  obtain ⟨mx, hmx⟩ := (HE.out.keep K0.out.below).mx
  have C1 := Lib.hid (abbrs_any exL1 (.slice (some ⟨W.heap.size, 0, none⟩) 2 2) (W.alloc (.cells #[.string ⟨#[76, 77, 84]⟩, .string ⟨#[]⟩] 9)) mx (SlV.of_block (K0.out.at 0 rfl) (by decide) (by unfold maxLen; decide) (by decide)) (by decide) (by decide) hmx)
  rw [ex1] at C1
  clear hmx
  refine C1.out.mono ?_
  rintro e w1 ⟨o1, rfl, hk1⟩
  have B1 := Lib.hid (K0.out.below.trans (hk1.below.mono K0.out.below.size))
  clear C1 hk1 K0
  have C2 := Lib.hid (names_any 52 (by decide) w1 (HE.out.keep B1.out))
  go_wp2_with fail
  refine C2.out.mono ?_
  rintro e w2 ⟨v2, rfl, hk2⟩
  obtain ⟨mx2, hmx2⟩ := ((HE.out.keep B1.out).keep hk2.below).mx
  have C3 := Lib.hid (abbrs_any (namesL 52) v2 w2 mx2 (SlV.of_own (hk2.row 0 rfl)) (by rw [namesL_len]; decide) (fun l hl => by rw [namesL_all (by decide) l hl]; decide) hmx2)
  rw [ex52] at C3
  have B2 := Lib.hid (B1.out.trans (hk2.below.mono B1.out.size))
  clear hmx2 C2 hk2
  go_wp2_with fail
  refine C3.out.mono ?_
  rintro e w3 ⟨o3, rfl, hk3⟩
  have B3 := Lib.hid (B2.out.trans (hk3.below.mono B2.out.size))
  clear C3 hk3 B1 B2
  have C4 := Lib.hid (names_any 51 (by decide) w3 (HE.out.keep B3.out))
  go_wp2_with fail
  refine C4.out.mono ?_
  rintro e w4 ⟨v4, rfl, hk4⟩
  obtain ⟨mx4, hmx4⟩ := ((HE.out.keep B3.out).keep hk4.below).mx
  have C5 := Lib.hid (abbrs_any (namesL 51) v4 w4 mx4 (SlV.of_own (hk4.row 0 rfl)) (by rw [namesL_len]; decide) (fun l hl => by rw [namesL_all (by decide) l hl]; decide) hmx4)
  rw [ex51, ex51n] at C5
  have B4 := Lib.hid (B3.out.trans (hk4.below.mono B3.out.size))
  clear hmx4 C4 hk4
  go_wp2_with fail
  refine C5.out.mono ?_
  rintro e w5 ⟨o5, rfl, hk5⟩
  obtain ⟨oa, oc, ho⟩ : ∃ a c, o5 = .slice a 51 c := own_slice (hk5.row 0 rfl)
  subst ho
  have B5 := Lib.hid (B4.out.trans (hk5.below.mono B4.out.size))
  clear C5 hk5 B3 B4
  have K5 := Lib.hid (((Kp.start w5).alloc (.cells #[.int .i64 0, .int .i64 4, .int .i64 8, .int .i64 4] 3)).allocAt (w5.heap.size + 1) (by simp) (.cells #[.string ⟨#[76, 77, 84]⟩, .string ⟨#[71, 77, 84]⟩, .string ⟨#[66, 83, 84]⟩, .string ⟨#[71, 77, 84]⟩] 9))
  go_wp2_with fail
  refine (has_true ⟨#[76, 77, 84, 46, 71, 77, 84, 46, 66, 83, 84, 46]⟩ [0, 4, 8, 4] exL2 _ _ _ (HE.out.keep (B5.out.trans (K5.out.below.mono B5.out.size))) (SlV.of_block (c := 4) (K5.out.at 1 rfl) (by decide) (by unfold maxLen; decide) (by decide)) (SlV.of_block (c := 4) (K5.out.at 0 rfl) (by decide) (by unfold maxLen; decide) (by decide)) (by decide) (by decide) (by decide) (of_decide_eq_true (by kernel_rfl)) (by kernel_rfl) (by kernel_rfl) (by kernel_rfl)).mono ?_
  rintro e w6 ⟨rfl, hB6⟩
  have B6 := Lib.hid ((B5.out.trans (K5.out.below.mono B5.out.size)).trans (hB6.mono (B5.out.trans (K5.out.below.mono B5.out.size)).size))
  clear hB6 K5 B5
  have K6 := Lib.hid (((Kp.start w6).alloc (.cells #[.int .i64 1, .int .i64 0, .int .i64 5, .int .i64 2] 3)).allocAt (w6.heap.size + 1) (by simp) (.cells #[.string ⟨#[69, 83, 84]⟩, .string ⟨#[67, 69, 83, 84]⟩, .string ⟨#[87, 69, 83, 84]⟩, .string ⟨#[83, 84]⟩] 9))
  go_wp2_with fail
  refine (has_true ⟨#[67, 69, 83, 84, 46, 87, 69, 83, 84, 46]⟩ [1, 0, 5, 2] exL3 _ _ _ (HE.out.keep (B6.out.trans (K6.out.below.mono B6.out.size))) (SlV.of_block (c := 4) (K6.out.at 1 rfl) (by decide) (by unfold maxLen; decide) (by decide)) (SlV.of_block (c := 4) (K6.out.at 0 rfl) (by decide) (by unfold maxLen; decide) (by decide)) (by decide) (by decide) (by decide) (of_decide_eq_true (by kernel_rfl)) (by kernel_rfl) (by kernel_rfl) (by kernel_rfl)).mono ?_
  rintro e w7 ⟨rfl, hB7⟩
  have B7 := Lib.hid ((B6.out.trans (K6.out.below.mono B6.out.size)).trans (hB7.mono (B6.out.trans (K6.out.below.mono B6.out.size)).size))
  clear hB7 K6 B6
  have K7 := Lib.hid (((Kp.start w7).alloc (.cells #[.int .i64 6, .int .i64 0] 3)).allocAt (w7.heap.size + 1) (by simp) (.cells #[.string ⟨#[43, 48, 49]⟩, .string ⟨#[43, 48, 49, 51, 48]⟩] 9))
  go_wp2_with fail
  refine (has_true ⟨#[43, 48, 49, 51, 48, 46, 43, 48, 49, 46]⟩ [6, 0] exL4 _ _ _ (HE.out.keep (B7.out.trans (K7.out.below.mono B7.out.size))) (SlV.of_block (c := 2) (K7.out.at 1 rfl) (by decide) (by unfold maxLen; decide) (by decide)) (SlV.of_block (c := 2) (K7.out.at 0 rfl) (by decide) (by unfold maxLen; decide) (by decide)) (by decide) (by decide) (by decide) (of_decide_eq_true (by kernel_rfl)) (by kernel_rfl) (by kernel_rfl) (by kernel_rfl)).mono ?_
  rintro e w8 ⟨rfl, hB8⟩
  have B8 := Lib.hid ((B7.out.trans (K7.out.below.mono B7.out.size)).trans (hB8.mono (B7.out.trans (K7.out.below.mono B7.out.size)).size))
  clear hB8 K7 B7
  have C9 := Lib.hid (has_true ⟨#[]⟩ [] [] (.slice none 0 0) (.slice none 0 0) w8 (HE.out.keep B8.out) (SlV.nil _ _) (SlV.nil _ _) (by decide) (by decide) (by decide) (of_decide_eq_true (by kernel_rfl)) (by kernel_rfl) (by kernel_rfl) (by kernel_rfl))
  go_wp2_with fail
  refine C9.out.mono ?_
  rintro e w9 ⟨rfl, hB9⟩
  have B9 := Lib.hid (B8.out.trans (hB9.mono B8.out.size))
  clear hB9 B8
  go_wp2_with fail
  refine bodyPost_ret (v := .bool true) (by simp [results, Tryd.results9, go_sem]) rfl ⟨rfl, B9.out⟩
end Go.Proofs.YtkfgonbopgdmgaaDoor.Px
