/- The functions gmt, needs and works of analemmalaw42: the chapter's examples hold. -/
import Derived.Test.YtkpmmabdpeobaaaGreatDoorSV3
namespace Go.Proofs.YtkpmmabdpeobaaaGreatDoor.Px
open Go.RowKit
open Tz Tb Civ
def lRow (v : Value) (l : List Lc) : Rw := ⟨v, 28, 3, l.length, l.flatMap Lc.cells⟩
theorem app_str {L : List (Nat × Obj)} {R : List Rw} {v : Value} {l : B} {W X : World} (h : Kp L (bRow v l :: R) W X) (s : ByteArray) (m : B) (hs : s.data.toList = m) (hmax : l.length + m.length ≤ 1000000) :
 ∃ a c w1, (Builtin.append_ #[32, 9] 32 #[v, .string s]).run Tryz.prog X = .ok (.slice a (l ++ m).length c) w1 ∧ Kp L (bRow (.slice a (l ++ m).length c) (l ++ m) :: R) W w1 := by
 subst hs
 obtain ⟨v', w1, hr, hk⟩ := append_str h s hmax
 rw [bRow_is v' _ (by rw [List.length_append]; rfl)] at hk
 obtain ⟨a, c, rfl⟩ := bRow_slice (hk.row 0 rfl)
 exact ⟨a, c, w1, hr, hk⟩
theorem app_zeros {L : List (Nat × Obj)} {R : List Rw} {v : Value} {l : B} {W X : World} (h : Kp L (bRow v l :: R) W X) (n : Nat) (h0 : 0 < n) (hmax : l.length + n ≤ 1000000) :
 ∃ a c w1, (Builtin.append_ #[32, 3] 32 #[v, .int .i64 n]).run Tryz.prog X = .ok (.slice a (l ++ List.replicate n 0).length c) w1 ∧ Kp L (bRow (.slice a (l ++ List.replicate n 0).length c) (l ++ List.replicate n 0) :: R) W w1 := by
 obtain ⟨v', w1, hr, hk⟩ := append_zeros h n h0 hmax
 rw [bRow_is v' _ (by rw [List.length_append, List.length_replicate])] at hk
 obtain ⟨a, c, rfl⟩ := bRow_slice (hk.row 0 rfl)
 exact ⟨a, c, w1, hr, hk⟩
theorem app_block {L : List (Nat × Obj)} {R : List Rw} {v : Value} {l : B} {W X : World} (h : Kp L (bRow v l :: R) W X) (m : B) (hmax : l.length + m.length ≤ 1000000) :
 ∃ a c w1, (Builtin.append_ #[32, 32] 32 #[v, .slice (some ⟨X.heap.size, 0, none⟩) m.length m.length]).run Tryz.prog (X.alloc (.cells (m.map u8v).toArray 5)) = .ok (.slice a (l ++ m).length c) w1 ∧ Kp L (bRow (.slice a (l ++ m).length c) (l ++ m) :: R) W w1 := by
 have hk := h.alloc (.cells (m.map u8v).toArray 5)
 have hb : BytesV (X.alloc (.cells (m.map u8v).toArray 5)) (.slice (some ⟨X.heap.size, 0, none⟩) m.length m.length) m := by
  have := SlV.of_block (sz := 1) (n := m.length) (c := m.length) (hk.at 0 rfl) (Nat.le_refl _) (by unfold maxLen; omega) (by simp)
  rw [List.take_of_length_le (by simp)] at this
  exact this
 obtain ⟨v', w1, hr, hk'⟩ := append_u8s hk m _ hb (fun c e => by cases e) hmax
 rw [bRow_is v' _ (by rw [List.length_append])] at hk'
 have hk2 := hk'.drop
 obtain ⟨a, c, rfl⟩ := bRow_slice (hk2.row 0 rfl)
 exact ⟨a, c, w1, hr, hk2⟩
theorem conv_bytes {W : World} {v : Value} {l : B} (h : BytesV W v l) : (convert 32 9 v).run Tryz.prog W = .ok (.string (bs l)) W := by
 obtain ⟨_, a, c, rfl, h1, h2, h3⟩ := h
 rcases h3 with h3 | ⟨b, o, rfl, _, hc⟩
 · have hl : l = [] := List.length_eq_zero_iff.1 h3
   subst hl
   exact run_convert_bytes_zero W 32 5 Tryz.underlying32 Tryz.underlying5 a c 9 Tryz.underlying9
 · refine run_convert_bytes_back W 32 9 5 ⟨b, o, none⟩ c l Tryz.underlying32 Tryz.underlying5 Tryz.underlying9 (fun j hj => ?_)
   rw [WideShapes.add_plain]
   refine hc j _ ?_
   rw [List.getElem?_map, List.getElem?_eq_getElem hj]
   rfl
def gmtT (off : Int) (ab f : ByteArray) : Tab := ⟨[⟨off, false, ab⟩], [], f.data.toList⟩
theorem gmt_tab {X : World} {B : Nat} {tv : Value} {off : Int} {ab f : ByteArray} (h : X.ownsRow B (lRow tv [⟨off, false, ab⟩]).e (lRow tv [⟨off, false, ab⟩]).sz (lRow tv [⟨off, false, ab⟩]).v (lRow tv [⟨off, false, ab⟩]).n (lRow tv [⟨off, false, ab⟩]).xs) (ho : (Lit.int .i64 off).wf = true) (ha : ab.size ≤ 10) : TabV X tv (.slice none 0 0) f (gmtT off ab f) :=
 ⟨LcV.own h rfl, TrV.nil _, ByteArray.ext (by simp [gmtT, bs]), fun l hl => by
  rw [List.mem_singleton.1 hl]
  exact ⟨ho, by unfold maxLen; dsimp only; omega⟩, fun t ht => by cases ht⟩
set_option maxHeartbeats 4000000 in
set_option maxRecDepth 100000 in
theorem gmt42_any (off : Int) (ab f : ByteArray) (W : World) :
 Calls Tryz.prog 32 #[.int .i64 off, .string ab, .string f] W fun e w' => ∃ b, e = .returned (.agg #[.slice (some ⟨b, 0, none⟩) 1 1, .slice none 0 0, .string f]) ∧ Kp [] [lRow (.slice (some ⟨b, 0, none⟩) 1 1) [⟨off, false, ab⟩]] W w' := by
 go_enter Tryz.func32, Tryz.ntmps32
 go_wp2_with fail
 have K0 := (((Kp.start W).alloc (.cells #[.slice (some ⟨W.heap.size + 1, 0, none⟩) 1 1, .slice none 0 0, .string f] 25)).allocAt (W.heap.size + 1) (by simp) (.cells #[.int .i64 off, .bool false, .string ab] 28))
 obtain ⟨X, hX⟩ : ∃ Z, (W.alloc (.cells #[.slice (some ⟨W.heap.size + 1, 0, none⟩) 1 1, .slice none 0 0, .string f] 25)).alloc (.cells #[.int .i64 off, .bool false, .string ab] 28) = Z := ⟨_, rfl⟩
 rw [hX] at K0 ⊢
 clear hX
 obtain ⟨⟨x0, x1, x2⟩, _, _, _⟩ := row3 (K0.at 1 rfl)
 refine bodyPost_ret (v := .agg #[.slice (some ⟨W.heap.size + 1, 0, none⟩) 1 1, .slice none 0 0, .string f]) (by simp [results, Tryz.results32, go_sem, x0, x1, x2]) rfl ⟨_, rfl, ?_⟩
 exact (K0.own_block 3 1 1 (Nat.le_refl _) (by unfold maxLen; omega) rfl).pick (List.nil_sublist _)
set_option maxHeartbeats 4000000 in
set_option maxRecDepth 100000 in
theorem needs_any (x : Tab) (tv rv : Value) (f : ByteArray) (n : Int) (W : World) (h : TabV W tv rv f x) (hE : Env42 W) :
 Calls Tryz.prog 33 #[.agg #[tv, rv, .string f], .int .i64 n] W fun e w' => e = .returned (.bool (((versE x).2 == 0) && ((versE x).1 == n))) ∧ Below W.heap.size W w' := by
 have CV := Lib.hid (fun w h hE => version_any x tv rv f w h hE)
 obtain ⟨ta, tc, htv, _, _⟩ := h.types.slice
 obtain ⟨ra, rc, hrv, _, _⟩ := h.trans.slice
 obtain ⟨M, hM⟩ : ∃ n, x.types.length = n := ⟨_, rfl⟩
 obtain ⟨N, hN⟩ : ∃ n, x.trans.length = n := ⟨_, rfl⟩
 rw [hM] at htv
 rw [hN] at hrv
 subst htv hrv
 have K0 := Lib.hid ((Kp.start W).alloc (.cells #[.slice ta M tc, .slice ra N rc, .string f] 25))
 have HT := Lib.hid h
 have HE := Lib.hid hE
 obtain ⟨a, ha⟩ : ∃ a, (versE x).1 = a := ⟨_, rfl⟩
 obtain ⟨b, hb⟩ : ∃ a, (versE x).2 = a := ⟨_, rfl⟩
 rw [ha, hb] at CV
 rw [ha, hb]
 clear h hE hM hN ha hb
 go_enter Tryz.func33, Tryz.ntmps33
 go_wp2_with fail
 refine (CV.out _ (HT.out.keep K0.out.below) (HE.out.keep K0.out.below).env).mono ?_
 rintro _ V ⟨rfl, hb⟩
 have K1 := Lib.hid (K0.out.keep hb)
 clear hb
 by_cases h1 : b = 0
 · go_wp2_with fail
   go_ret
   exact ⟨by simp [h1], K1.out.below⟩
 · go_wp2_with fail
   go_ret
   exact ⟨by simp [h1], K1.out.below⟩
def ex111 : B := [84, 90, 105, 102, 50, 0, 0, 0, 0, 0, 0, 0, 0, 0, 0, 0, 0, 0, 0, 0, 0, 0, 0, 0, 0, 0, 0, 0, 0, 0, 0, 0, 0, 0, 0, 0, 0, 0, 0, 1, 0, 0, 0, 1, 0, 0, 0, 0, 0, 0, 0, 84, 90, 105, 102, 50, 0, 0, 0, 0, 0, 0, 0, 0, 0, 0, 0, 0, 0, 0, 0, 0, 0, 0, 0, 0, 0, 0, 0, 0, 0, 0, 0, 0, 0, 0, 0, 0, 0, 0, 1, 0, 0, 0, 4, 0, 0, 0, 0, 0, 0, 71, 77, 84, 0, 10, 71, 77, 84, 48, 10]
theorem ex_enc2 : encE (gmtT 0 (⟨#[71, 77, 84]⟩ : ByteArray) (⟨#[71, 77, 84, 48]⟩ : ByteArray)) 2 = (ex111, 0) := by kernel_rfl
theorem ex_enc1 : encE (gmtT 0 (⟨#[71, 77, 84]⟩ : ByteArray) (⟨#[71, 77, 84, 48]⟩ : ByteArray)) 1 = ([], 18) := by kernel_rfl
theorem ex_enc5 : encE (gmtT 0 (⟨#[71, 77, 84]⟩ : ByteArray) (⟨#[71, 77, 84, 48]⟩ : ByteArray)) 5 = ([], 18) := by kernel_rfl
theorem ex_enc0 : encE ⟨[], [], []⟩ 2 = ([], 4) := by kernel_rfl
theorem ex_vers0 : versE (gmtT 0 (⟨#[71, 77, 84]⟩ : ByteArray) (⟨#[71, 77, 84, 48]⟩ : ByteArray)) = (2, 0) := by kernel_rfl
theorem ex_vers1 : versE (gmtT 3600 (⟨#[67, 69, 84]⟩ : ByteArray) ⟨#[67, 69, 84, 45, 49, 67, 69, 83, 84, 44, 77, 51, 46, 53, 46, 48, 47, 45, 49, 44, 77, 49, 48, 46, 53, 46, 48, 47, 51]⟩) = (3, 0) := by kernel_rfl
theorem ex_vers2 : versE (gmtT 3600 (⟨#[67, 69, 84]⟩ : ByteArray) ⟨#[67, 69, 84, 45, 49, 67, 69, 83, 84, 44, 77, 51, 46, 53, 46, 48, 47, 50, 53, 44, 77, 49, 48, 46, 53, 46, 48, 47, 51]⟩) = (3, 0) := by kernel_rfl
theorem ex_vers3 : versE (gmtT 3600 (⟨#[67, 69, 84]⟩ : ByteArray) ⟨#[67, 69, 84, 45, 49, 67, 69, 83, 84, 44, 77, 51, 46, 53, 46, 48, 47, 50, 52, 44, 77, 49, 48, 46, 53, 46, 48, 47, 51]⟩) = (2, 0) := by kernel_rfl
set_option maxHeartbeats 8000000 in
set_option maxRecDepth 100000 in
theorem works42_any (W : World) (hE : Env42 W) : Calls Tryz.prog 14 #[] W fun e w' => e = .returned (.bool true) ∧ Below W.heap.size W w' := by
 have HE := Lib.hid hE
 have CG := Lib.hid (fun off ab f w => gmt42_any off ab f w)
 have CE := Lib.hid (fun x tv rv f v w h hE hm => encode_any x tv rv f v w h hE hm)
 have CN := Lib.hid (fun x tv rv f n w h hE => needs_any x tv rv f n w h hE)
 clear hE
 go_enter Tryz.func14, Tryz.ntmps14
 go_wp2_with fail
 refine (CG.out 0 (⟨#[71, 77, 84]⟩ : ByteArray) (⟨#[71, 77, 84, 48]⟩ : ByteArray) _).mono ?_
 rintro _ w1 ⟨b, rfl, hk⟩
 have K1 := Lib.hid hk
 clear hk
 go_upto_region 2 with fail
 have hk := K1.out.alloc (.cells #[.slice (some ⟨b, 0, none⟩) 1 1, .slice none 0 0, .string (⟨#[71, 77, 84, 48]⟩ : ByteArray)] 25)
 obtain ⟨X1, hX⟩ : ∃ Z, w1.alloc (.cells #[.slice (some ⟨b, 0, none⟩) 1 1, .slice none 0 0, .string (⟨#[71, 77, 84, 48]⟩ : ByteArray)] 25) = Z := ⟨_, rfl⟩
 obtain ⟨q, hq⟩ : ∃ Z, w1.heap.size = Z := ⟨_, rfl⟩
 rw [hX, hq] at hk ⊢
 have K2 := Lib.hid hk
 clear hk hX hq K1
 obtain ⟨⟨x0, x1, x2⟩, _, _, _⟩ := row3 (K2.out.at 0 rfl)
 go_wp2_with fail
 have C1 := CE.out (gmtT 0 (⟨#[71, 77, 84]⟩ : ByteArray) (⟨#[71, 77, 84, 48]⟩ : ByteArray)) _ _ (⟨#[71, 77, 84, 48]⟩ : ByteArray) 2 X1 (gmt_tab (off := 0) (ab := (⟨#[71, 77, 84]⟩ : ByteArray)) (K2.out.row 0 rfl) (by decide) (by decide)) (HE.out.keep K2.out.below) (Nat.zero_le _)
 rw [ex_enc2] at C1
 refine C1.mono ?_
 rintro _ w3 ⟨ov, rfl, hk⟩
 have hk := K2.out.adopt hk
 obtain ⟨ea, ec, rfl⟩ := bRow_slice (hk.row 0 rfl)
 rw [show ex111.length = 111 from rfl]
 have K3 := Lib.hid hk
 clear hk K2 C1 x0 x1 x2
 obtain ⟨⟨x0, x1, x2⟩, _, _, _⟩ := row3 (K3.out.at 0 rfl)
 go_wp2_with fail
 have C2 := CN.out (gmtT 0 (⟨#[71, 77, 84]⟩ : ByteArray) (⟨#[71, 77, 84, 48]⟩ : ByteArray)) _ _ (⟨#[71, 77, 84, 48]⟩ : ByteArray) 2 w3 (gmt_tab (off := 0) (ab := (⟨#[71, 77, 84]⟩ : ByteArray)) (K3.out.row 1 rfl) (by decide) (by decide)) (HE.out.keep K3.out.below)
 rw [ex_vers0] at C2
 refine C2.mono ?_
 rintro _ w4 ⟨rfl, hb⟩
 have hk := (K3.out.keep hb).fresh 5 1
 have hk0 : Kp [(q, .cells #[.slice (some ⟨b, 0, none⟩) 1 1, .slice none 0 0, .string (⟨#[71, 77, 84, 48]⟩ : ByteArray)] 25 (0, 0))] (bRow (.slice none 0 0) [] :: bRow (.slice ea ex111.length ec) ex111 :: [lRow (.slice (some ⟨b, 0, none⟩) 1 1) [⟨0, false, (⟨#[71, 77, 84]⟩ : ByteArray)⟩]]) W w4 := hk
 clear hk hb K3 C2 x0 x1 x2
 obtain ⟨a1, c1, y1, hr1, hk1⟩ := app_str hk0 ⟨#[84, 90, 105, 102, 50]⟩ [84, 90, 105, 102, 50] rfl (by decide)
 obtain ⟨l1, hl1⟩ : ∃ l : B, ([] : B) ++ [84, 90, 105, 102, 50] = l := ⟨_, rfl⟩
 rw [hl1] at hr1 hk1
 have hn1 : l1.length = 5 := by rw [← hl1]; rfl
 have HR1 := Lib.hid hr1
 obtain ⟨a2, c2, y2, hr2, hk2⟩ := app_zeros hk1 30 (by decide) (by rw [hn1]; decide)
 obtain ⟨l2, hl2⟩ : ∃ l : B, l1 ++ List.replicate 30 0 = l := ⟨_, rfl⟩
 rw [hl2] at hr2 hk2
 have hn2 : l2.length = 35 := by rw [← hl2, List.length_append, hn1]; rfl
 have HR2 := Lib.hid hr2
 obtain ⟨a3, c3, y3, hr3, hk3⟩ := app_block hk2 [0, 0, 0, 0, 1, 0, 0, 0, 1] (by rw [hn2]; decide)
 obtain ⟨l3, hl3⟩ : ∃ l : B, l2 ++ [0, 0, 0, 0, 1, 0, 0, 0, 1] = l := ⟨_, rfl⟩
 rw [hl3] at hr3 hk3
 have hn3 : l3.length = 44 := by rw [← hl3, List.length_append, hn2]; rfl
 have HR3 := Lib.hid hr3
 obtain ⟨a4, c4, y4, hr4, hk4⟩ := app_zeros hk3 7 (by decide) (by rw [hn3]; decide)
 obtain ⟨l4, hl4⟩ : ∃ l : B, l3 ++ List.replicate 7 0 = l := ⟨_, rfl⟩
 rw [hl4] at hr4 hk4
 have hn4 : l4.length = 51 := by rw [← hl4, List.length_append, hn3]; rfl
 have HR4 := Lib.hid hr4
 obtain ⟨a5, c5, y5, hr5, hk5⟩ := app_str hk4 ⟨#[84, 90, 105, 102, 50]⟩ [84, 90, 105, 102, 50] rfl (by rw [hn4]; decide)
 obtain ⟨l5, hl5⟩ : ∃ l : B, l4 ++ [84, 90, 105, 102, 50] = l := ⟨_, rfl⟩
 rw [hl5] at hr5 hk5
 have hn5 : l5.length = 56 := by rw [← hl5, List.length_append, hn4]; rfl
 have HR5 := Lib.hid hr5
 obtain ⟨a6, c6, y6, hr6, hk6⟩ := app_zeros hk5 30 (by decide) (by rw [hn5]; decide)
 obtain ⟨l6, hl6⟩ : ∃ l : B, l5 ++ List.replicate 30 0 = l := ⟨_, rfl⟩
 rw [hl6] at hr6 hk6
 have hn6 : l6.length = 86 := by rw [← hl6, List.length_append, hn5]; rfl
 have HR6 := Lib.hid hr6
 obtain ⟨a7, c7, y7, hr7, hk7⟩ := app_block hk6 [0, 0, 0, 0, 1, 0, 0, 0, 4] (by rw [hn6]; decide)
 obtain ⟨l7, hl7⟩ : ∃ l : B, l6 ++ [0, 0, 0, 0, 1, 0, 0, 0, 4] = l := ⟨_, rfl⟩
 rw [hl7] at hr7 hk7
 have hn7 : l7.length = 95 := by rw [← hl7, List.length_append, hn6]; rfl
 have HR7 := Lib.hid hr7
 obtain ⟨a8, c8, y8, hr8, hk8⟩ := app_zeros hk7 6 (by decide) (by rw [hn7]; decide)
 obtain ⟨l8, hl8⟩ : ∃ l : B, l7 ++ List.replicate 6 0 = l := ⟨_, rfl⟩
 rw [hl8] at hr8 hk8
 have hn8 : l8.length = 101 := by rw [← hl8, List.length_append, hn7]; rfl
 have HR8 := Lib.hid hr8
 obtain ⟨a9, c9, y9, hr9, hk9⟩ := app_str hk8 ⟨#[71, 77, 84, 0, 10, 71, 77, 84, 48, 10]⟩ [71, 77, 84, 0, 10, 71, 77, 84, 48, 10] rfl (by rw [hn8]; decide)
 obtain ⟨l9, hl9⟩ : ∃ l : B, l8 ++ [71, 77, 84, 0, 10, 71, 77, 84, 48, 10] = l := ⟨_, rfl⟩
 rw [hl9] at hr9 hk9
 have hn9 : l9.length = 111 := by rw [← hl9, List.length_append, hn8]; rfl
 have HR9 := Lib.hid hr9
 have HLE := Lib.hid (show l9 = ex111 by rw [← hl9, ← hl8, ← hl7, ← hl6, ← hl5, ← hl4, ← hl3, ← hl2, ← hl1]; rfl)
 have K5 := Lib.hid hk9
 clear hr1 hl1 hn1 hk1 hr2 hl2 hn2 hk2 hr3 hl3 hn3 hk3 hr4 hl4 hn4 hk4 hr5 hl5 hn5 hk5 hr6 hl6 hn6 hk6 hr7 hl7 hn7 hk7 hr8 hl8 hn8 hk8 hr9 hl9 hn9 hk9 hk0
 go_upto_region 6 with fail
 go_wp2_with fail
 refine wp_loop_rounds 3 ?_
 rw [rounds_succ]
 go_upto_region 10 with (at_builtin; refine wpList_append_run rfl _ _ 32 9 rfl _ _ _ y1 rfl rfl HR1.out ?_)
 go_upto_region 11 with (at_builtin; refine wpList_append_run rfl _ _ 32 3 rfl _ _ _ y2 rfl rfl HR2.out ?_)
 go_upto_region 12 with (at_builtin; refine wpList_append_run rfl _ _ 32 32 rfl _ _ _ y3 rfl rfl HR3.out ?_)
 go_upto_region 8 with (at_builtin; refine wpList_append_run rfl _ _ 32 3 rfl _ _ _ y4 rfl rfl HR4.out ?_)
 go_wp2_with fail
 rw [rounds_succ]
 go_upto_region 10 with (at_builtin; refine wpList_append_run rfl _ _ 32 9 rfl _ _ _ y5 rfl rfl HR5.out ?_)
 go_upto_region 11 with (at_builtin; refine wpList_append_run rfl _ _ 32 3 rfl _ _ _ y6 rfl rfl HR6.out ?_)
 go_upto_region 12 with (at_builtin; refine wpList_append_run rfl _ _ 32 32 rfl _ _ _ y7 rfl rfl HR7.out ?_)
 go_upto_region 8 with fail
 go_wp2_with fail
 rw [rounds_succ]
 go_upto_region 14 with fail
 go_upto_region 15 with (first
  | (at_builtin; refine wpList_append_run rfl _ _ 32 3 rfl _ _ _ y8 rfl rfl HR8.out ?_)
  | (at_builtin; refine wpList_append_run rfl _ _ 32 9 rfl _ _ _ y9 rfl rfl HR9.out ?_))
 clear HR1 HR2 HR3 HR4 HR5 HR6 HR7 HR8 HR9
 have hv1 := conv_bytes (BytesV.own (K5.out.row 0 rfl) rfl)
 have hv2 := conv_bytes (BytesV.own (K5.out.row 1 rfl) rfl)
 dsimp only [bRow] at hv1 hv2
 rw [show ex111.length = 111 from rfl] at hv2
 rw [HLE.out] at hv1 K5
 rw [HLE.out]
 obtain ⟨sx, hsx⟩ : ∃ s, bs ex111 = s := ⟨_, rfl⟩
 rw [hsx] at hv1 hv2
 clear hsx HLE
 obtain ⟨⟨x0, x1, x2⟩, _, _, _⟩ := row3 (K5.out.at 0 rfl)
 go_upto_region 17 with fail
 clear hv1 hv2
 have hk : Kp [(q, .cells #[.slice (some ⟨b, 0, none⟩) 1 1, .slice none 0 0, .string (⟨#[71, 77, 84, 48]⟩ : ByteArray)] 25 (0, 0))] [lRow (.slice (some ⟨b, 0, none⟩) 1 1) [⟨0, false, (⟨#[71, 77, 84]⟩ : ByteArray)⟩]] W y9 := K5.out.less ((List.sublist_cons_self _ _).trans (List.sublist_cons_self _ _))
 have K6 := Lib.hid hk
 clear hk K5
 go_wp2_with fail
 have C1 := CE.out (gmtT 0 (⟨#[71, 77, 84]⟩ : ByteArray) (⟨#[71, 77, 84, 48]⟩ : ByteArray)) _ _ (⟨#[71, 77, 84, 48]⟩ : ByteArray) 1 _ (gmt_tab (off := 0) (ab := (⟨#[71, 77, 84]⟩ : ByteArray)) (K6.out.row 0 rfl) (by decide) (by decide)) (HE.out.keep K6.out.below) (Nat.zero_le _)
 rw [ex_enc1] at C1
 refine C1.mono ?_
 rintro _ z0 ⟨ov, rfl, hk⟩
 obtain ⟨e0, f0, rfl⟩ := bRow_slice (hk.row 0 rfl)
 have hk : Kp [(q, .cells #[.slice (some ⟨b, 0, none⟩) 1 1, .slice none 0 0, .string (⟨#[71, 77, 84, 48]⟩ : ByteArray)] 25 (0, 0))] [lRow (.slice (some ⟨b, 0, none⟩) 1 1) [⟨0, false, (⟨#[71, 77, 84]⟩ : ByteArray)⟩]] W z0 := (K6.out.adopt hk).less (List.sublist_cons_self _ _)
 have K6 := Lib.hid hk
 clear hk C1 x0 x1 x2
 obtain ⟨⟨x0, x1, x2⟩, _, _, _⟩ := row3 (K6.out.at 0 rfl)
 go_wp2_with fail
 have C1 := CE.out (gmtT 0 (⟨#[71, 77, 84]⟩ : ByteArray) (⟨#[71, 77, 84, 48]⟩ : ByteArray)) _ _ (⟨#[71, 77, 84, 48]⟩ : ByteArray) 5 _ (gmt_tab (off := 0) (ab := (⟨#[71, 77, 84]⟩ : ByteArray)) (K6.out.row 0 rfl) (by decide) (by decide)) (HE.out.keep K6.out.below) (Nat.zero_le _)
 rw [ex_enc5] at C1
 refine C1.mono ?_
 rintro _ z1 ⟨ov, rfl, hk⟩
 obtain ⟨e1, f1, rfl⟩ := bRow_slice (hk.row 0 rfl)
 have hk : Kp [(q, .cells #[.slice (some ⟨b, 0, none⟩) 1 1, .slice none 0 0, .string (⟨#[71, 77, 84, 48]⟩ : ByteArray)] 25 (0, 0))] [lRow (.slice (some ⟨b, 0, none⟩) 1 1) [⟨0, false, (⟨#[71, 77, 84]⟩ : ByteArray)⟩]] W z1 := (K6.out.adopt hk).less (List.sublist_cons_self _ _)
 have K6 := Lib.hid hk
 clear hk C1 x0 x1 x2
 obtain ⟨⟨x0, x1, x2⟩, _, _, _⟩ := row3 (K6.out.at 0 rfl)
 go_wp2_with fail
 have C1 := CE.out ⟨[], [], []⟩ (.slice none 0 0) (.slice none 0 0) ⟨#[]⟩ 2 z1 ⟨LcV.nil _, TrV.nil _, rfl, (fun _ h => by cases h), (fun _ h => by cases h)⟩ (HE.out.keep K6.out.below) (Nat.zero_le _)
 rw [ex_enc0] at C1
 refine C1.mono ?_
 rintro _ z2 ⟨ov, rfl, hk⟩
 obtain ⟨e2, f2, rfl⟩ := bRow_slice (hk.row 0 rfl)
 have K7 := Lib.hid ((K6.out.adopt hk).pick (List.nil_sublist _) |>.less (List.nil_sublist _))
 clear hk C1 x0 x1 x2 K6
 go_wp2_with fail
 refine (CG.out 3600 (⟨#[67, 69, 84]⟩ : ByteArray) (⟨#[67, 69, 84, 45, 49, 67, 69, 83, 84, 44, 77, 51, 46, 53, 46, 48, 47, 45, 49, 44, 77, 49, 48, 46, 53, 46, 48, 47, 51]⟩ : ByteArray) _).mono ?_
 rintro _ u0 ⟨b0, rfl, hk⟩
 have K8 := Lib.hid (K7.out.adopt hk)
 clear hk
 go_wp2_with fail
 have C2 := CN.out (gmtT 3600 (⟨#[67, 69, 84]⟩ : ByteArray) (⟨#[67, 69, 84, 45, 49, 67, 69, 83, 84, 44, 77, 51, 46, 53, 46, 48, 47, 45, 49, 44, 77, 49, 48, 46, 53, 46, 48, 47, 51]⟩ : ByteArray)) _ _ (⟨#[67, 69, 84, 45, 49, 67, 69, 83, 84, 44, 77, 51, 46, 53, 46, 48, 47, 45, 49, 44, 77, 49, 48, 46, 53, 46, 48, 47, 51]⟩ : ByteArray) 3 u0 (gmt_tab (off := 3600) (ab := (⟨#[67, 69, 84]⟩ : ByteArray)) (K8.out.row 0 rfl) (by decide) (by decide)) (HE.out.keep K8.out.below)
 rw [ex_vers1] at C2
 refine C2.mono ?_
 rintro _ t0 ⟨rfl, hb⟩
 have hk := (K8.out.keep hb).less (List.nil_sublist _)
 have K7 := Lib.hid hk
 clear hk hb C2 K8
 go_wp2_with fail
 refine (CG.out 3600 (⟨#[67, 69, 84]⟩ : ByteArray) (⟨#[67, 69, 84, 45, 49, 67, 69, 83, 84, 44, 77, 51, 46, 53, 46, 48, 47, 50, 53, 44, 77, 49, 48, 46, 53, 46, 48, 47, 51]⟩ : ByteArray) _).mono ?_
 rintro _ u1 ⟨b1, rfl, hk⟩
 have K8 := Lib.hid (K7.out.adopt hk)
 clear hk
 go_wp2_with fail
 have C2 := CN.out (gmtT 3600 (⟨#[67, 69, 84]⟩ : ByteArray) (⟨#[67, 69, 84, 45, 49, 67, 69, 83, 84, 44, 77, 51, 46, 53, 46, 48, 47, 50, 53, 44, 77, 49, 48, 46, 53, 46, 48, 47, 51]⟩ : ByteArray)) _ _ (⟨#[67, 69, 84, 45, 49, 67, 69, 83, 84, 44, 77, 51, 46, 53, 46, 48, 47, 50, 53, 44, 77, 49, 48, 46, 53, 46, 48, 47, 51]⟩ : ByteArray) 3 u1 (gmt_tab (off := 3600) (ab := (⟨#[67, 69, 84]⟩ : ByteArray)) (K8.out.row 0 rfl) (by decide) (by decide)) (HE.out.keep K8.out.below)
 rw [ex_vers2] at C2
 refine C2.mono ?_
 rintro _ t1 ⟨rfl, hb⟩
 have hk := (K8.out.keep hb).less (List.nil_sublist _)
 have K7 := Lib.hid hk
 clear hk hb C2 K8
 go_wp2_with fail
 refine (CG.out 3600 (⟨#[67, 69, 84]⟩ : ByteArray) (⟨#[67, 69, 84, 45, 49, 67, 69, 83, 84, 44, 77, 51, 46, 53, 46, 48, 47, 50, 52, 44, 77, 49, 48, 46, 53, 46, 48, 47, 51]⟩ : ByteArray) _).mono ?_
 rintro _ u2 ⟨b2, rfl, hk⟩
 have K8 := Lib.hid (K7.out.adopt hk)
 clear hk
 go_wp2_with fail
 have C2 := CN.out (gmtT 3600 (⟨#[67, 69, 84]⟩ : ByteArray) (⟨#[67, 69, 84, 45, 49, 67, 69, 83, 84, 44, 77, 51, 46, 53, 46, 48, 47, 50, 52, 44, 77, 49, 48, 46, 53, 46, 48, 47, 51]⟩ : ByteArray)) _ _ (⟨#[67, 69, 84, 45, 49, 67, 69, 83, 84, 44, 77, 51, 46, 53, 46, 48, 47, 50, 52, 44, 77, 49, 48, 46, 53, 46, 48, 47, 51]⟩ : ByteArray) 2 u2 (gmt_tab (off := 3600) (ab := (⟨#[67, 69, 84]⟩ : ByteArray)) (K8.out.row 0 rfl) (by decide) (by decide)) (HE.out.keep K8.out.below)
 rw [ex_vers3] at C2
 refine C2.mono ?_
 rintro _ t2 ⟨rfl, hb⟩
 have hk := (K8.out.keep hb).less (List.nil_sublist _)
 have K7 := Lib.hid hk
 clear hk hb C2 K8
 go_wp2_with fail
 go_ret
 exact ⟨rfl, K7.out.below⟩
end Go.Proofs.YtkpmmabdpeobaaaGreatDoor.Px
