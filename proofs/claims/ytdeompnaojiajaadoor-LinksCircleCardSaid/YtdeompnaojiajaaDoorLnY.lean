/- The helper works of the laws of chapter 15: the examples of the chapter hold. -/
import Derived.Test.YtdeompnaojiajaaDoorLnX
namespace Go.Proofs.YtdeompnaojiajaaDoor.Px
open Go.RowKit
open Go.Maps (Keyed)
open Lk

theorem finds_ok (rv zv lv sv : Value) (Z : List Zo) (L : List (List UInt8 × List UInt8)) (n : List UInt8) (k : Nat) (e0 : Int) (W : World) (h : SrcV W zv lv Z L) (hn : n.length ≤ maxLen) (hz : Z.length ≤ 1000000) (hl : L.length ≤ 1000000) (hv : findL (znames Z) L n = (k, e0)) :
    Calls Tryd.prog 22 #[.agg #[rv, zv, lv, sv], .string (bs n), .int .i64 (k : Int), .int .i64 e0] W fun e w' => e = .returned (.bool true) ∧ Below W.heap.size W w' := by
  have := finds_any rv zv lv sv Z L n (k : Int) e0 W h hn hz hl
  rw [hv, decide_eq_true ⟨rfl, rfl⟩] at this
  exact this
theorem checks_ok (rv zv lv sv : Value) (Z : List Zo) (L : List (List UInt8 × List UInt8)) (pa ix e0 : Int) (W : World) (h : SrcV W zv lv Z L) (hz : Z.length ≤ 1000000) (hl : L.length ≤ 1000000) (hv : checkL (znames Z) L zoneOk = ((pa, ix), e0)) :
    Calls Tryd.prog 21 #[.agg #[rv, zv, lv, sv], .int .i64 pa, .int .i64 ix, .int .i64 e0] W fun e w' => e = .returned (.bool true) ∧ Below W.heap.size W w' := by
  have := checks_any rv zv lv sv Z L pa ix e0 W h hz hl
  rw [hv, decide_eq_true rfl] at this
  exact this
theorem slv_lit (l : List (List UInt8)) (X : World) (hl : l.length ≤ 1000) : SlV (X.alloc (.cells (l.map svv).toArray 9)) (.slice (some ⟨X.heap.size, 0, none⟩) l.length l.length) 1 l.length (l.map svv) := by
  have h := SlV.of_block (W := X.alloc (.cells (l.map svv).toArray 9)) (sz := 1) (heap_new X (.cells (l.map svv).toArray 9)) (Nat.le_refl l.length) (by unfold maxLen; omega) (by simp)
  rw [Nat.mul_one, List.take_of_length_le (by simp)] at h
  exact h
theorem of_lit (zs : List (List UInt8)) (P : List (List UInt8 × List UInt8)) (X : World) (hz : zs.length ≤ 100) (hl : P.length ≤ 100) (hzn : ∀ z ∈ zs, z.length ≤ 100) (hln : ∀ p ∈ P, p.1.length ≤ 100 ∧ p.2.length ≤ 100) :
    Calls Tryd.prog 30 #[.slice (some ⟨X.heap.size, 0, none⟩) zs.length zs.length, .slice (some ⟨X.heap.size + 1, 0, none⟩) (flatP P).length (flatP P).length] ((X.alloc (.cells (zs.map svv).toArray 9)).alloc (.cells ((flatP P).map svv).toArray 9)) fun e w' => ∃ zv lv, e = .returned (.agg #[.slice none 0 0, zv, lv, .slice none 0 0]) ∧ SrcV w' zv lv (zos zs) P ∧ Below X.heap.size X w' := by
  have h1 := slv_lit zs X (by omega)
  have h2 := slv_lit (flatP P) (X.alloc (.cells (zs.map svv).toArray 9)) (by rw [flatP_len]; omega)
  rw [World.size_alloc] at h2
  refine (of_any zs P _ _ _ (h1.keep ((Below.refl _ _).alloc (Nat.le_refl _) _)) h2 (by omega) (by omega) (fun z h => by have := hzn z h; unfold maxLen; omega) (fun p h => by have := hln p h; unfold maxLen; omega)).mono ?_
  rintro e w' ⟨zv, lv, he, hs, hb⟩
  refine ⟨zv, lv, he, hs, (((Below.refl _ X).alloc (Nat.le_refl _) _).alloc (by rw [World.size_alloc]; omega) _).trans (hb.mono (by rw [World.size_alloc, World.size_alloc]; omega))⟩
def oz0 : List (List UInt8) := [[65], [66]]
def ol0 : List (List UInt8 × List UInt8) := [([67], [65]), ([68], [67]), ([69], [70]), ([70], [69])]
theorem of0 (X : World) : Calls Tryd.prog 30 #[.slice (some ⟨X.heap.size, 0, none⟩) 2 2, .slice (some ⟨X.heap.size + 1, 0, none⟩) 8 8] ((X.alloc (.cells #[.string ⟨#[65]⟩, .string ⟨#[66]⟩] 9)).alloc (.cells #[.string ⟨#[67]⟩, .string ⟨#[65]⟩, .string ⟨#[68]⟩, .string ⟨#[67]⟩, .string ⟨#[69]⟩, .string ⟨#[70]⟩, .string ⟨#[70]⟩, .string ⟨#[69]⟩] 9)) fun e w' => ∃ zv lv, e = .returned (.agg #[.slice none 0 0, zv, lv, .slice none 0 0]) ∧ SrcV w' zv lv (zos oz0) ol0 ∧ Below X.heap.size X w' :=
  of_lit oz0 ol0 X (by decide) (by decide) (by decide) (by decide)
theorem ch0 : checkL (znames (zos oz0)) ol0 zoneOk = ((3, 2), 11) := by kernel_rfl
def oz1 : List (List UInt8) := [[65], [66]]
def ol1 : List (List UInt8 × List UInt8) := [([67], [65]), ([68], [67]), ([69], [70])]
theorem of1 (X : World) : Calls Tryd.prog 30 #[.slice (some ⟨X.heap.size, 0, none⟩) 2 2, .slice (some ⟨X.heap.size + 1, 0, none⟩) 6 6] ((X.alloc (.cells #[.string ⟨#[65]⟩, .string ⟨#[66]⟩] 9)).alloc (.cells #[.string ⟨#[67]⟩, .string ⟨#[65]⟩, .string ⟨#[68]⟩, .string ⟨#[67]⟩, .string ⟨#[69]⟩, .string ⟨#[70]⟩] 9)) fun e w' => ∃ zv lv, e = .returned (.agg #[.slice none 0 0, zv, lv, .slice none 0 0]) ∧ SrcV w' zv lv (zos oz1) ol1 ∧ Below X.heap.size X w' :=
  of_lit oz1 ol1 X (by decide) (by decide) (by decide) (by decide)
theorem ch1 : checkL (znames (zos oz1)) ol1 zoneOk = ((3, 2), 9) := by kernel_rfl
def oz2 : List (List UInt8) := [[65], [66]]
def ol2 : List (List UInt8 × List UInt8) := [([67], [65]), ([68], [67])]
theorem of2 (X : World) : Calls Tryd.prog 30 #[.slice (some ⟨X.heap.size, 0, none⟩) 2 2, .slice (some ⟨X.heap.size + 1, 0, none⟩) 4 4] ((X.alloc (.cells #[.string ⟨#[65]⟩, .string ⟨#[66]⟩] 9)).alloc (.cells #[.string ⟨#[67]⟩, .string ⟨#[65]⟩, .string ⟨#[68]⟩, .string ⟨#[67]⟩] 9)) fun e w' => ∃ zv lv, e = .returned (.agg #[.slice none 0 0, zv, lv, .slice none 0 0]) ∧ SrcV w' zv lv (zos oz2) ol2 ∧ Below X.heap.size X w' :=
  of_lit oz2 ol2 X (by decide) (by decide) (by decide) (by decide)
theorem ch2 : checkL (znames (zos oz2)) ol2 zoneOk = ((0, 0), 0) := by kernel_rfl
def oz3 : List (List UInt8) := [[65], [66]]
def ol3 : List (List UInt8 × List UInt8) := [([67], [65]), ([68], [67]), ([65], [66])]
theorem of3 (X : World) : Calls Tryd.prog 30 #[.slice (some ⟨X.heap.size, 0, none⟩) 2 2, .slice (some ⟨X.heap.size + 1, 0, none⟩) 6 6] ((X.alloc (.cells #[.string ⟨#[65]⟩, .string ⟨#[66]⟩] 9)).alloc (.cells #[.string ⟨#[67]⟩, .string ⟨#[65]⟩, .string ⟨#[68]⟩, .string ⟨#[67]⟩, .string ⟨#[65]⟩, .string ⟨#[66]⟩] 9)) fun e w' => ∃ zv lv, e = .returned (.agg #[.slice none 0 0, zv, lv, .slice none 0 0]) ∧ SrcV w' zv lv (zos oz3) ol3 ∧ Below X.heap.size X w' :=
  of_lit oz3 ol3 X (by decide) (by decide) (by decide) (by decide)
theorem ch3 : checkL (znames (zos oz3)) ol3 zoneOk = ((3, 2), 10) := by kernel_rfl
def oz4 : List (List UInt8) := [[65], [66], [66]]
def ol4 : List (List UInt8 × List UInt8) := [([67], [65])]
theorem of4 (X : World) : Calls Tryd.prog 30 #[.slice (some ⟨X.heap.size, 0, none⟩) 3 3, .slice (some ⟨X.heap.size + 1, 0, none⟩) 2 2] ((X.alloc (.cells #[.string ⟨#[65]⟩, .string ⟨#[66]⟩, .string ⟨#[66]⟩] 9)).alloc (.cells #[.string ⟨#[67]⟩, .string ⟨#[65]⟩] 9)) fun e w' => ∃ zv lv, e = .returned (.agg #[.slice none 0 0, zv, lv, .slice none 0 0]) ∧ SrcV w' zv lv (zos oz4) ol4 ∧ Below X.heap.size X w' :=
  of_lit oz4 ol4 X (by decide) (by decide) (by decide) (by decide)
theorem ch4 : checkL (znames (zos oz4)) ol4 zoneOk = ((2, 2), 10) := by kernel_rfl
def oz5 : List (List UInt8) := [[65], [66], [47]]
def ol5 : List (List UInt8 × List UInt8) := [([67], [65])]
theorem of5 (X : World) : Calls Tryd.prog 30 #[.slice (some ⟨X.heap.size, 0, none⟩) 3 3, .slice (some ⟨X.heap.size + 1, 0, none⟩) 2 2] ((X.alloc (.cells #[.string ⟨#[65]⟩, .string ⟨#[66]⟩, .string ⟨#[47]⟩] 9)).alloc (.cells #[.string ⟨#[67]⟩, .string ⟨#[65]⟩] 9)) fun e w' => ∃ zv lv, e = .returned (.agg #[.slice none 0 0, zv, lv, .slice none 0 0]) ∧ SrcV w' zv lv (zos oz5) ol5 ∧ Below X.heap.size X w' :=
  of_lit oz5 ol5 X (by decide) (by decide) (by decide) (by decide)
theorem ch5 : checkL (znames (zos oz5)) ol5 zoneOk = ((2, 2), 9) := by kernel_rfl
def oz6 : List (List UInt8) := [[65], [66]]
def ol6 : List (List UInt8 × List UInt8) := [([71], [45])]
theorem of6 (X : World) : Calls Tryd.prog 30 #[.slice (some ⟨X.heap.size, 0, none⟩) 2 2, .slice (some ⟨X.heap.size + 1, 0, none⟩) 2 2] ((X.alloc (.cells #[.string ⟨#[65]⟩, .string ⟨#[66]⟩] 9)).alloc (.cells #[.string ⟨#[71]⟩, .string ⟨#[45]⟩] 9)) fun e w' => ∃ zv lv, e = .returned (.agg #[.slice none 0 0, zv, lv, .slice none 0 0]) ∧ SrcV w' zv lv (zos oz6) ol6 ∧ Below X.heap.size X w' :=
  of_lit oz6 ol6 X (by decide) (by decide) (by decide) (by decide)
theorem ch6 : checkL (znames (zos oz6)) ol6 zoneOk = ((3, 0), 9) := by kernel_rfl
theorem fi0 : findL (znames (zos oz0)) ol0 [65] = (0, 0) := by kernel_rfl
theorem fi1 : findL (znames (zos oz0)) ol0 [66] = (1, 0) := by kernel_rfl
theorem fi2 : findL (znames (zos oz0)) ol0 [67] = (0, 0) := by kernel_rfl
theorem fi3 : findL (znames (zos oz0)) ol0 [68] = (0, 0) := by kernel_rfl
theorem fi4 : findL (znames (zos oz0)) ol0 [69] = (0, 11) := by kernel_rfl
theorem fi5 : findL (znames (zos oz0)) ol0 [88] = (0, 9) := by kernel_rfl
def allN : List (List UInt8) := [[65], [66], [67], [68], [69], [70]]
theorem names0 : namesL (znames (zos oz0)) ol0 = allN :=
  incr_unique (names_incr _ _) (by decide) (fun x => by
    rw [names_mem, show znames (zos oz0) = oz0 from zos_names oz0]
    unfold oz0 nm ol0 allN
    simp only [List.map_cons, List.map_nil, List.mem_cons, List.not_mem_nil, or_false]
    constructor
    · rintro ((h | h) | (h | h | h | h)) <;> subst h <;> simp
    · rintro (h | h | h | h | h | h) <;> subst h <;> simp)
set_option maxHeartbeats 8000000 in
set_option maxRecDepth 100000 in
theorem works_any (W : World) : Calls Tryd.prog 9 #[] W fun e w' => e = .returned (.bool true) ∧ Below W.heap.size W w' := by
  have hle := Lib.hid (show ∀ x : List UInt8, x.length ≤ 1 → x.length ≤ maxLen from fun x h => by unfold maxLen; omega)
  have K0 := Lib.hid (Kp.start W)
  go_enter Tryd.func9, Tryd.ntmps9
  go_wp2_with (first
    | (go_at_call 30; have gg := K0.out; clear gg; refine (of0 W).mono ?_; rintro e X1 ⟨zv, lv, rfl, hs, hb⟩; obtain ⟨za, zc, ez, _, _⟩ := hs.zo.slA; obtain ⟨la, lc, el, _, _⟩ := hs.lk.slA; obtain ⟨zl, hzl⟩ : ∃ n, (zos oz0).length = n := ⟨_, rfl⟩; obtain ⟨ll, hll⟩ : ∃ n, ol0.length = n := ⟨_, rfl⟩; rw [hzl] at ez; rw [hll] at el; subst ez el; clear hzl hll; have HSrc := Lib.hid hs; have K1 := Lib.hid ((K0.out.keep hb).allocAt X1.heap.size rfl (.cells #[.slice none 0 0, .slice za zl zc, .slice la ll lc, .slice none 0 0] 27)); have B1 := Lib.hid ((Below.refl _ X1).alloc (Nat.le_refl _) (.cells #[.slice none 0 0, .slice za zl zc, .slice la ll lc, .slice none 0 0] 27)); obtain ⟨ya0, ya1, ya2, ya3⟩ := row4 (K1.out.at 0 rfl); clear hb hs K0)
    | (go_at_call 18; have gg := K1.out; clear gg; refine (names_any _ (.slice za zl zc) (.slice la ll lc) _ (zos oz0) ol0 _ (HSrc.out.keep B1.out) (by decide) (by decide)).mono ?_; rintro e X2 ⟨v, rfl, hsl, hb⟩; rw [names0] at hsl; have HSl := Lib.hid hsl; have K2 := Lib.hid (K1.out.keep hb); have B2 := Lib.hid (B1.out.trans (hb.mono B1.out.size)); clear hb hsl K1 B1 ya0 ya1 ya2 ya3)
    | (go_at_call 17; refine (equal_strs allN allN v _ _ (HSl.out.keep ((Below.refl _ X2).alloc (Nat.le_refl _) _)) (slv_lit allN X2 (by decide))).mono ?_; rintro e X3 ⟨rfl, hb⟩; rw [decide_eq_true rfl]; have hb' := ((Below.refl _ X2).alloc (Nat.le_refl _) (.cells #[.string ⟨#[65]⟩, .string ⟨#[66]⟩, .string ⟨#[67]⟩, .string ⟨#[68]⟩, .string ⟨#[69]⟩, .string ⟨#[70]⟩] 9)).trans (hb.mono (by rw [World.size_alloc]; omega)); have K3 := Lib.hid (K2.out.keep hb'); have B3 := Lib.hid (B2.out.trans (hb'.mono B2.out.size)); obtain ⟨yc0, yc1, yc2, yc3⟩ := row4 (K3.out.at 0 rfl); clear hb hb' K2 B2)
    | (go_at_call 22; have gg := K3.out; clear gg; refine (finds_ok _ (.slice za zl zc) (.slice la ll lc) _ (zos oz0) ol0 [65] 0 0 _ (HSrc.out.keep B3.out) (hle.out _ (by decide)) (by decide) (by decide) fi0).mono ?_; rintro e X4 ⟨rfl, hb⟩; have K4 := Lib.hid (K3.out.keep hb); have B4 := Lib.hid (B3.out.trans (hb.mono B3.out.size)); obtain ⟨y40, y41, y42, y43⟩ := row4 (K4.out.at 0 rfl); clear hb K3 B3)
    | (go_at_call 22; have gg := K4.out; clear gg; refine (finds_ok _ (.slice za zl zc) (.slice la ll lc) _ (zos oz0) ol0 [66] 1 0 _ (HSrc.out.keep B4.out) (hle.out _ (by decide)) (by decide) (by decide) fi1).mono ?_; rintro e X5 ⟨rfl, hb⟩; have K5 := Lib.hid (K4.out.keep hb); have B5 := Lib.hid (B4.out.trans (hb.mono B4.out.size)); obtain ⟨y50, y51, y52, y53⟩ := row4 (K5.out.at 0 rfl); clear hb K4 B4)
    | (go_at_call 22; have gg := K5.out; clear gg; refine (finds_ok _ (.slice za zl zc) (.slice la ll lc) _ (zos oz0) ol0 [67] 0 0 _ (HSrc.out.keep B5.out) (hle.out _ (by decide)) (by decide) (by decide) fi2).mono ?_; rintro e X6 ⟨rfl, hb⟩; have K6 := Lib.hid (K5.out.keep hb); have B6 := Lib.hid (B5.out.trans (hb.mono B5.out.size)); obtain ⟨y60, y61, y62, y63⟩ := row4 (K6.out.at 0 rfl); clear hb K5 B5)
    | (go_at_call 22; have gg := K6.out; clear gg; refine (finds_ok _ (.slice za zl zc) (.slice la ll lc) _ (zos oz0) ol0 [68] 0 0 _ (HSrc.out.keep B6.out) (hle.out _ (by decide)) (by decide) (by decide) fi3).mono ?_; rintro e X7 ⟨rfl, hb⟩; have K7 := Lib.hid (K6.out.keep hb); have B7 := Lib.hid (B6.out.trans (hb.mono B6.out.size)); obtain ⟨y70, y71, y72, y73⟩ := row4 (K7.out.at 0 rfl); clear hb K6 B6)
    | (go_at_call 22; have gg := K7.out; clear gg; refine (finds_ok _ (.slice za zl zc) (.slice la ll lc) _ (zos oz0) ol0 [69] 0 11 _ (HSrc.out.keep B7.out) (hle.out _ (by decide)) (by decide) (by decide) fi4).mono ?_; rintro e X8 ⟨rfl, hb⟩; have K8 := Lib.hid (K7.out.keep hb); have B8 := Lib.hid (B7.out.trans (hb.mono B7.out.size)); obtain ⟨y80, y81, y82, y83⟩ := row4 (K8.out.at 0 rfl); clear hb K7 B7)
    | (go_at_call 22; have gg := K8.out; clear gg; refine (finds_ok _ (.slice za zl zc) (.slice la ll lc) _ (zos oz0) ol0 [88] 0 9 _ (HSrc.out.keep B8.out) (hle.out _ (by decide)) (by decide) (by decide) fi5).mono ?_; rintro e X9 ⟨rfl, hb⟩; have K9 := Lib.hid (K8.out.keep hb); have B9 := Lib.hid (B8.out.trans (hb.mono B8.out.size)); obtain ⟨y90, y91, y92, y93⟩ := row4 (K9.out.at 0 rfl); clear hb K8 B8)
    | (go_at_call 21; have gg := K9.out; clear gg; refine (checks_ok _ (.slice za zl zc) (.slice la ll lc) _ (zos oz0) ol0 3 2 11 _ (HSrc.out.keep B9.out) (by decide) (by decide) ch0).mono ?_; rintro e X10 ⟨rfl, hb⟩; have K10 := Lib.hid (K9.out.keep hb); clear hb K9)
    | (go_at_call 30; have gg := K10.out; clear gg; refine (of1 X10).mono ?_; rintro e X11 ⟨zv1, lv1, rfl, hs, hb⟩; have HSrc1 := Lib.hid hs; have K11 := Lib.hid (K10.out.keep hb); clear hb hs K10)
    | (go_at_call 21; have gg := K11.out; clear gg; refine (checks_ok _ zv1 lv1 _ (zos oz1) ol1 3 2 9 _ HSrc1.out (by decide) (by decide) ch1).mono ?_; rintro e X12 ⟨rfl, hb⟩; have K12 := Lib.hid (K11.out.keep hb); clear hb K11)
    | (go_at_call 30; have gg := K12.out; clear gg; refine (of2 X12).mono ?_; rintro e X13 ⟨zv2, lv2, rfl, hs, hb⟩; have HSrc2 := Lib.hid hs; have K13 := Lib.hid (K12.out.keep hb); clear hb hs K12)
    | (go_at_call 21; have gg := K13.out; clear gg; refine (checks_ok _ zv2 lv2 _ (zos oz2) ol2 0 0 0 _ HSrc2.out (by decide) (by decide) ch2).mono ?_; rintro e X14 ⟨rfl, hb⟩; have K14 := Lib.hid (K13.out.keep hb); clear hb K13)
    | (go_at_call 30; have gg := K14.out; clear gg; refine (of3 X14).mono ?_; rintro e X15 ⟨zv3, lv3, rfl, hs, hb⟩; have HSrc3 := Lib.hid hs; have K15 := Lib.hid (K14.out.keep hb); clear hb hs K14)
    | (go_at_call 21; have gg := K15.out; clear gg; refine (checks_ok _ zv3 lv3 _ (zos oz3) ol3 3 2 10 _ HSrc3.out (by decide) (by decide) ch3).mono ?_; rintro e X16 ⟨rfl, hb⟩; have K16 := Lib.hid (K15.out.keep hb); clear hb K15)
    | (go_at_call 30; have gg := K16.out; clear gg; refine (of4 X16).mono ?_; rintro e X17 ⟨zv4, lv4, rfl, hs, hb⟩; have HSrc4 := Lib.hid hs; have K17 := Lib.hid (K16.out.keep hb); clear hb hs K16)
    | (go_at_call 21; have gg := K17.out; clear gg; refine (checks_ok _ zv4 lv4 _ (zos oz4) ol4 2 2 10 _ HSrc4.out (by decide) (by decide) ch4).mono ?_; rintro e X18 ⟨rfl, hb⟩; have K18 := Lib.hid (K17.out.keep hb); clear hb K17)
    | (go_at_call 30; have gg := K18.out; clear gg; refine (of5 X18).mono ?_; rintro e X19 ⟨zv5, lv5, rfl, hs, hb⟩; have HSrc5 := Lib.hid hs; have K19 := Lib.hid (K18.out.keep hb); clear hb hs K18)
    | (go_at_call 21; have gg := K19.out; clear gg; refine (checks_ok _ zv5 lv5 _ (zos oz5) ol5 2 2 9 _ HSrc5.out (by decide) (by decide) ch5).mono ?_; rintro e X20 ⟨rfl, hb⟩; have K20 := Lib.hid (K19.out.keep hb); clear hb K19)
    | (go_at_call 30; have gg := K20.out; clear gg; refine (of6 X20).mono ?_; rintro e X21 ⟨zv6, lv6, rfl, hs, hb⟩; have HSrc6 := Lib.hid hs; have K21 := Lib.hid (K20.out.keep hb); clear hb hs K20)
    | (go_at_call 21; have gg := K21.out; clear gg; refine (checks_ok _ zv6 lv6 _ (zos oz6) ol6 3 0 9 _ HSrc6.out (by decide) (by decide) ch6).mono ?_; rintro e X22 ⟨rfl, hb⟩; have K22 := Lib.hid (K21.out.keep hb); clear hb K21)
    | go_in)
  refine bodyPost_ret (v := .bool true) (by simp [results, Tryd.results9, go_sem]) rfl ⟨rfl, K22.out.below⟩
end Go.Proofs.YtdeompnaojiajaaDoor.Px
