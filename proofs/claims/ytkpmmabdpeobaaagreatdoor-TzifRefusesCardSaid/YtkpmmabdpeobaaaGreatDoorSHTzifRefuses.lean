/- The law TzifRefuses, its walk. The law TzifRefuses returns true for every table by numbers and every number, and its tied card holds; no condition beyond the row itself. -/
import Derived.Test.YtkpmmabdpeobaaaGreatDoorSV6
import Derived.Test.YtkpmmabdpeobaaaGreatDoorSU28
import Derived.Test.YtkpmmabdpeobaaaGreatDoorSU17
import Derived.Deep.RegionHeldLaw
import Derived.Test.YtkpmmabdpeobaaaGreatDoorSU13
import Derived.Test.YtkpmmabdpeobaaaGreatDoorSU14
import Derived.Test.YtkpmmabdpeobaaaGreatDoorSU41
import Derived.Test.YtkpmmabdpeobaaaGreatDoorSV5
import Derived.Test.YtkpmmabdpeobaaaGreatDoorSU27
namespace Go.Proofs.YtkpmmabdpeobaaaGreatDoor.Px
open Go.RowKit
open Tz Tb Civ
theorem infoLc42 : (Tryz.prog.info? 28).map (fun i => (i.zero, i.size, i.bytes)) = some (some (.agg #[.int .i64 0, .bool false, .string ⟨#[]⟩]), 3, 32) := by kernel_rfl
theorem infoTr42 : (Tryz.prog.info? 36).map (fun i => (i.zero, i.size, i.bytes)) = some (some (.agg #[.int .i64 0, .int .i64 0]), 2, 16) := by kernel_rfl
def tRow (v : Value) (l : List Tr) : Rw := ⟨v, 36, 2, l.length, l.flatMap Tr.cells⟩
theorem lc_one42 (l : List Lc) : ∀ u ∈ l.flatMap Lc.cells, u.oneCell' = true := by
 intro u hu
 obtain ⟨x, _, hx⟩ := List.mem_flatMap.1 hu
 simp only [Lc.cells, List.mem_cons, List.not_mem_nil, or_false] at hx
 rcases hx with rfl | rfl | rfl <;> rfl
theorem tr_one42 (l : List Tr) : ∀ u ∈ l.flatMap Tr.cells, u.oneCell' = true := by
 intro u hu
 obtain ⟨x, _, hx⟩ := List.mem_flatMap.1 hu
 simp only [Tr.cells, List.mem_cons, List.not_mem_nil, or_false] at hx
 rcases hx with rfl | rfl <;> rfl
theorem copy_lcs {L : List (Nat × Obj)} {R : List Rw} {W X : World} (h : Kp L R W X) (l : List Lc) (v : Value) (hv : LcV X v l) (hnil : ∀ c, v = .slice none l.length c → c = 0) (hmax : l.length ≤ 1000) :
 ∃ a c w1, (Builtin.append_ #[22, 22] 22 #[.slice (some ⟨X.heap.size, 0, none⟩) 0 0, v]).run Tryz.prog (X.alloc (.cells #[] 28)) = .ok (.slice a l.length c) w1 ∧ Kp L (lRow (.slice a l.length c) l :: R) W w1 := by
 obtain ⟨i0, hi, hz0, hz1, hz2⟩ := info_parts infoLc42
 have hk := (h.alloc (.cells #[] 28)).own_block 3 0 0 (Nat.le_refl _) (by unfold maxLen; omega) rfl
 obtain ⟨v', w1, hr, hk'⟩ := append_flat Tryz.underlying22 hi hz0 hz1 hz2 rfl (by decide) (by omega) hk l.length (l.flatMap Lc.cells) v (hv.keep ((Below.refl _ X).alloc (Nat.le_refl _) _)) (lc_one42 l) hnil (by omega)
 have hk2 : Kp L (lRow v' l :: R) W w1 := by
  have e : (⟨v', 28, 3, 0 + l.length, [] ++ l.flatMap Lc.cells⟩ : Rw) = lRow v' l := by unfold lRow; rw [Nat.zero_add, List.nil_append]
  rw [← e]
  exact hk'
 obtain ⟨a, c, rfl⟩ : ∃ a c, v' = .slice a l.length c := own_slice (hk2.row 0 rfl)
 exact ⟨a, c, w1, hr, hk2⟩
theorem copy_trs {L : List (Nat × Obj)} {R : List Rw} {W X : World} (h : Kp L R W X) (l : List Tr) (v : Value) (hv : TrV X v l) (hnil : ∀ c, v = .slice none l.length c → c = 0) (hmax : l.length ≤ 1000) :
 ∃ a c w1, (Builtin.append_ #[23, 23] 23 #[.slice (some ⟨X.heap.size, 0, none⟩) 0 0, v]).run Tryz.prog (X.alloc (.cells #[] 36)) = .ok (.slice a l.length c) w1 ∧ Kp L (tRow (.slice a l.length c) l :: R) W w1 := by
 obtain ⟨i0, hi, hz0, hz1, hz2⟩ := info_parts infoTr42
 have hk := (h.alloc (.cells #[] 36)).own_block 2 0 0 (Nat.le_refl _) (by unfold maxLen; omega) rfl
 obtain ⟨v', w1, hr, hk'⟩ := append_flat Tryz.underlying23 hi hz0 hz1 hz2 rfl (by decide) (by omega) hk l.length (l.flatMap Tr.cells) v (hv.keep ((Below.refl _ X).alloc (Nat.le_refl _) _)) (tr_one42 l) hnil (by omega)
 have hk2 : Kp L (tRow v' l :: R) W w1 := by
  have e : (⟨v', 36, 2, 0 + l.length, [] ++ l.flatMap Tr.cells⟩ : Rw) = tRow v' l := by unfold tRow; rw [Nat.zero_add, List.nil_append]
  rw [← e]
  exact hk'
 obtain ⟨a, c, rfl⟩ : ∃ a c, v' = .slice a l.length c := own_slice (hk2.row 0 rfl)
 exact ⟨a, c, w1, hr, hk2⟩
theorem own_nil42 {X : World} {B sz n m : Nat} {a : Option Addr} {c : Nat} {e : TypeId} {xs : List Value} (h : X.ownsRow B e sz (.slice a n c) m xs) : ∀ k, (.slice a n c : Value) = .slice none n k → k = 0 := by
 intro k e1
 rcases own_cells h with ⟨_, e2⟩ | ⟨g, cap, e2, _⟩
 · rw [e1] at e2
   simp only [Value.slice.injEq] at e2
   exact e2.2.2
 · rw [e1] at e2
   simp at e2
def RefW (q : Nat) (W wx : World) : Prop := ∃ tv rv f X', Kp [(q, .cells #[tv, rv, .string f] 25 (0, 0))] [] W wx ∧ TabV wx tv rv f X' ∧ checkE X' ≠ 0 ∧ X'.trans.length ≤ 10000
set_option maxHeartbeats 8000000 in
set_option maxRecDepth 100000 in
theorem tzifRefuses_cells (TY ST NX : List Int) (be fo ba : Int) (tv sv nv : Value) (what : Int) (W : World) (h : D40V W tv sv nv ⟨TY, ST, NX, be, fo, ba⟩) (hin : D40.In ⟨TY, ST, NX, be, fo, ba⟩) (a0 : 0 ≤ what) (a1 : what ≤ 255) (hE : Env42 W) :
 Calls Tryz.prog 6 #[.agg #[tv, sv, nv, .int .i32 be, .int .u8 fo, .int .u8 ba], .int .u8 what] W fun e w' => e = .returned (.bool true) ∧ Below W.heap.size W w' := by
 have CM0 := Lib.hid (fun w h => made40_any TY ST NX be fo ba tv sv nv w h hin)
 obtain ⟨da0, dc0, hdv, _, _⟩ := h.types.slice
 obtain ⟨sa0, sc0, hsv, _, _⟩ := h.steps.slice
 obtain ⟨na0, nc0, hnv, _, _⟩ := h.next.slice
 obtain ⟨DN0, hDN⟩ : ∃ n, TY.length = n := ⟨_, rfl⟩
 obtain ⟨SN0, hSN⟩ : ∃ n, ST.length = n := ⟨_, rfl⟩
 obtain ⟨NN0, hNN⟩ : ∃ n, NX.length = n := ⟨_, rfl⟩
 dsimp only at hdv hsv hnv
 rw [hDN] at hdv
 rw [hSN] at hsv
 rw [hNN] at hnv
 subst hdv hsv hnv
 have hr := made_right _ hin
 have hN41 := made_trans_len _ hin
 have hM11 := (made_sub _ hin).2
 obtain ⟨X, hX⟩ : ∃ X, D40.made ⟨TY, ST, NX, be, fo, ba⟩ = X := ⟨_, rfl⟩
 rw [hX] at CM0 hr hN41 hM11
 obtain ⟨Ss, hS⟩ : ∃ S, bs X.foot = S := ⟨_, rfl⟩
 obtain ⟨M, hM⟩ : ∃ n, X.types.length = n := ⟨_, rfl⟩
 obtain ⟨N, hN⟩ : ∃ n, X.trans.length = n := ⟨_, rfl⟩
 rw [hM] at hM11
 rw [hN] at hN41
 have HR0 := Lib.hid hr
 have HS0 := Lib.hid hS
 have HM0 := Lib.hid hM
 have HN0 := Lib.hid hN
 have hM11_0 := hM11
 have hN41_0 := hN41
 have HH0 := Lib.hid h
 clear h hin hX hr hS hM hN hDN hSN hNN hM11 hN41
 have HE := Lib.hid hE
 have CW := Lib.hid (fun w hE => works42_any w hE)
 have CE := Lib.hid (fun x tv rv f v w h hE hm => encode_any x tv rv f v w h hE hm)
 have CV := Lib.hid (fun x tv rv f w h hE => version_any x tv rv f w h hE)
 have CC := Lib.hid (fun x tv rv f w h hE => tcheck_any x tv rv f w h hE)
 have hM0 : 0 < M := by
  have := (typesE_zero (right_types HR0.out)).1
  rw [← HM0.out]
  exact List.length_pos_iff.2 this
 have K0 := Lib.hid ((Kp.start W).alloc (.cells #[.slice da0 DN0 dc0, .slice sa0 SN0 sc0, .slice na0 NN0 nc0, .int .i32 be, .int .u8 fo, .int .u8 ba] 41))
 clear hE
 go_enter Tryz.func6, Tryz.ntmps6
 go_wp2_with fail
 refine (CM0.out _ ⟨HH0.out.types.keep K0.out.below, HH0.out.steps.keep K0.out.below, HH0.out.next.keep K0.out.below⟩).mono ?_
 rintro _ V0 ⟨tv, rv, rfl, hk, hf⟩
 obtain ⟨xa0, xc0, rfl⟩ : ∃ a c, tv = .slice a X.types.length c := own_slice (hk.row 1 rfl)
 obtain ⟨ya0, yc0, rfl⟩ : ∃ a c, rv = .slice a X.trans.length c := own_slice (hk.row 0 rfl)
 have HF0 := Lib.hid hf
 have hk := K0.out.adopt hk
 rw [HM0.out, HN0.out] at hk ⊢
 rw [HS0.out]
 clear hf CM0 K0
 go_upto_region 2 with fail
 have hk := hk.alloc (.cells #[.slice xa0 M xc0, .slice ya0 N yc0, .string Ss] 25)
 obtain ⟨X1, hX⟩ : ∃ Z, V0.alloc (.cells #[.slice xa0 M xc0, .slice ya0 N yc0, .string Ss] 25) = Z := ⟨_, rfl⟩
 obtain ⟨q0, hq⟩ : ∃ Z, V0.heap.size = Z := ⟨_, rfl⟩
 rw [hX, hq] at hk ⊢
 have K1 := Lib.hid hk
 clear hk hX hq
 obtain ⟨⟨x0, x1, x2⟩, xf0, xf1, xf2⟩ := row3 (K1.out.at 0 rfl)
 have zx := K1.out.lt 0 rfl
 obtain ⟨a4, c4, w4, hr4, hk4⟩ := copy_lcs K1.out X.types (.slice xa0 M xc0) (LcV.own (K1.out.row 1 rfl) rfl) (by rw [HM0.out]; exact own_nil42 (K1.out.row 1 rfl)) (by rw [HM0.out]; omega)
 rw [HM0.out] at hr4 hk4
 have HR4 := Lib.hid hr4
 have y0 := cells_at (hk4.at 0 rfl) 0
 have yf := free_at (hk4.at 0 rfl) 0
 have yz := hk4.lt 0 rfl
 have hk5 := hk4.set 0 rfl 0 (.slice a4 M c4) rfl
 obtain ⟨X5, hX5⟩ : ∃ Z, w4.setCell ⟨q0, 0, none⟩ (.slice a4 M c4) = Z := ⟨_, rfl⟩
 rw [hX5] at hk5
 have HX5 := Lib.hid hX5
 clear hr4 hk4 hX5
 go_upto_region 5 with (at_builtin; refine wpList_append_run rfl _ _ 22 22 rfl _ _ _ w4 rfl rfl HR4.out ?_)
 rw [HX5.out]
 clear x0 x1 x2 xf0 xf1 xf2 zx y0 yf yz HR4 HX5
 obtain ⟨⟨x0, x1, x2⟩, xf0, xf1, xf2⟩ := row3 (hk5.at 0 rfl)
 have zx := hk5.lt 0 rfl
 obtain ⟨a6, c6, w6, hr6, hk6⟩ := copy_trs hk5 X.trans (.slice ya0 N yc0) (TrV.own (hk5.row 1 rfl) rfl) (by rw [HN0.out]; exact own_nil42 (hk5.row 1 rfl)) (by rw [HN0.out]; omega)
 rw [HN0.out] at hr6 hk6
 have HR6 := Lib.hid hr6
 have y0 := cells_at (hk6.at 0 rfl) 1
 have yf := free_at (hk6.at 0 rfl) 1
 have yz := hk6.lt 0 rfl
 have hk7 := hk6.set 0 rfl 1 (.slice a6 N c6) rfl
 obtain ⟨X7, hX7⟩ : ∃ Z, w6.setCell ⟨q0, 1, none⟩ (.slice a6 N c6) = Z := ⟨_, rfl⟩
 rw [hX7] at hk7
 have HX7 := Lib.hid hX7
 clear hr6 hk6 hX7 hk5
 go_upto_block 0 with (at_builtin; refine wpList_append_run rfl _ _ 23 23 rfl _ _ _ w6 rfl rfl HR6.out ?_)
 rw [HX7.out]
 clear x0 x1 x2 xf0 xf1 xf2 zx y0 yf yz HR6 HX7 K1
 have hk7 : Kp [(q0, .cells #[.slice a4 M c4, .slice a6 N c6, .string Ss] 25 (0, 0))] [tRow (.slice a6 N c6) X.trans, lRow (.slice a4 M c4) X.types] W X7 := (hk7.pick (List.Sublist.cons_cons _ (List.nil_sublist _))).less (List.Sublist.cons_cons _ (List.Sublist.cons_cons _ (List.nil_sublist _)))
 obtain ⟨g4, rfl, -, -, -, -⟩ := own_some (hk7.row 1 rfl) (show 0 < X.types.length by rw [HM0.out]; exact hM0)
 have K7 := Lib.hid hk7
 clear hk7
 obtain ⟨k0, ks, hks⟩ : ∃ k l, X.types = k :: l := by
  cases h : X.types with
  | nil => rw [h] at HM0; have := HM0.out; simp at this; omega
  | cons k l => exact ⟨k, l, rfl⟩
 have HKs := Lib.hid hks
 have hMp : 0 < X.types.length := by rw [HM0.out]; exact hM0
 obtain ⟨⟨x0, x1, x2⟩, xf0, xf1, xf2⟩ := row3 (K7.out.at 0 rfl)
 have zx := K7.out.lt 0 rfl
 have zg := ((K7.out.row 1 rfl).lt g4 rfl).2
 clear hks
 go_cut [36] (fun _ wx => RefW q0 W wx)
 case first =>
  have hw : what % 6 = 0 ∨ what % 6 = 1 ∨ what % 6 = 2 ∨ what % 6 = 3 ∨ what % 6 = 4 ∨ what % 6 = 5 := by omega
  rcases hw with e | e | e | e | e | e
  · have KP := Lib.hid (K7.out.set 0 rfl 0 (.slice none 0 0) rfl)
    go_wp2_with fail
    go_meet
    exact ⟨_, _, _, ⟨[], X.trans, X.foot⟩, KP.out.less (List.nil_sublist _), ⟨LcV.nil _, TrV.own (KP.out.row 0 rfl) rfl, HS0.out.symm, (fun _ h => by cases h), HF0.out.trs⟩, spoil_0 _ _, by dsimp only; rw [HN0.out]; omega⟩
  · obtain ⟨d0, d1, d2⟩ := lc_cell (K7.out.row 1 rfl) (show X.types[0]? = some k0 by rw [HKs.out]; rfl)
    simp only [Nat.zero_mul, Nat.zero_add] at d0 d1 d2
    have f0 := K7.out.swap.free hMp 0
    have KP := Lib.hid ((K7.out.swap.put hMp 0 (.int .i64 54001)).swap)
    have hset : (X.types.flatMap Lc.cells).set 0 (.int .i64 54001) = (Lc.mk 54001 k0.dst k0.abbr :: ks).flatMap Lc.cells := by rw [HKs.out]; rfl
    go_wp2_with fail
    go_meet
    exact ⟨_, _, _, ⟨Lc.mk 54001 k0.dst k0.abbr :: ks, X.trans, X.foot⟩, KP.out.less (List.nil_sublist _), ⟨LcV.own (B := W.heap.size) (e := 28) (n := X.types.length) (by rw [← hset]; exact KP.out.row 1 rfl) (by rw [HKs.out]; rfl), TrV.own (KP.out.row 0 rfl) rfl, HS0.out.symm, (fun l hl => by
     rcases List.mem_cons.1 hl with rfl | hl
     · exact ⟨show (Lit.int .i64 54001).wf = true by decide, (HF0.out.lcs k0 (by rw [HKs.out]; simp)).2⟩
     · exact HF0.out.lcs l (by rw [HKs.out]; exact List.mem_cons_of_mem _ hl)), HF0.out.trs⟩, spoil_1 (q := X.trans) (g := X.foot) (by have := HR0.out; rw [show X = ⟨k0 :: ks, X.trans, X.foot⟩ by rw [← HKs.out]] at this; exact this) (by decide), by dsimp only; rw [HN0.out]; omega⟩
  · obtain ⟨d0, d1, d2⟩ := lc_cell (K7.out.row 1 rfl) (show X.types[0]? = some k0 by rw [HKs.out]; rfl)
    simp only [Nat.zero_mul, Nat.zero_add] at d0 d1 d2
    have f0 := K7.out.swap.free hMp 2
    have KP := Lib.hid ((K7.out.swap.put hMp 2 (.string ⟨#[65]⟩)).swap)
    have hset : (X.types.flatMap Lc.cells).set 2 (.string ⟨#[65]⟩) = (Lc.mk k0.off k0.dst ⟨#[65]⟩ :: ks).flatMap Lc.cells := by rw [HKs.out]; rfl
    go_wp2_with fail
    go_meet
    exact ⟨_, _, _, ⟨Lc.mk k0.off k0.dst ⟨#[65]⟩ :: ks, X.trans, X.foot⟩, KP.out.less (List.nil_sublist _), ⟨LcV.own (B := W.heap.size) (e := 28) (n := X.types.length) (by rw [← hset]; exact KP.out.row 1 rfl) (by rw [HKs.out]; rfl), TrV.own (KP.out.row 0 rfl) rfl, HS0.out.symm, (fun l hl => by
     rcases List.mem_cons.1 hl with rfl | hl
     · exact ⟨(HF0.out.lcs k0 (by rw [HKs.out]; simp)).1, show 1 ≤ maxLen by decide⟩
     · exact HF0.out.lcs l (by rw [HKs.out]; exact List.mem_cons_of_mem _ hl)), HF0.out.trs⟩, spoil_2 (q := X.trans) (g := X.foot) (by have := HR0.out; rw [show X = ⟨k0 :: ks, X.trans, X.foot⟩ by rw [← HKs.out]] at this; exact this) (by kernel_rfl), by dsimp only; rw [HN0.out]; omega⟩
  · obtain ⟨i0, hi, hz0, hz1, hz2⟩ := info_parts infoTr42
    have hkb := K7.out.alloc (.cells #[.int .i64 36028797018963969, .int .i64 0] 36)
    have hvb : SlV (X7.alloc (.cells #[.int .i64 36028797018963969, .int .i64 0] 36)) (.slice (some ⟨X7.heap.size, 0, none⟩) 1 1) 2 1 [.int .i64 36028797018963969, .int .i64 0] := SlV.of_block (hkb.at 0 rfl) (by omega) (by unfold maxLen; omega) (by simp)
    obtain ⟨v8, w8, hr8, hk8⟩ := append_flat Tryz.underlying23 hi hz0 hz1 hz2 rfl (by decide) (by omega) hkb 1 _ _ hvb (by intro u hu; simp only [List.mem_cons, List.not_mem_nil, or_false] at hu; rcases hu with rfl | rfl <;> rfl) (fun c e => by cases e) (by rw [HN0.out]; omega)
    have hk8 := hk8.drop
    have e8 : (⟨v8, 36, 2, X.trans.length + 1, X.trans.flatMap Tr.cells ++ [.int .i64 36028797018963969, .int .i64 0]⟩ : Rw) = tRow v8 (X.trans ++ [(⟨36028797018963969, 0⟩ : Tr)]) := by unfold tRow; rw [List.length_append, List.flatMap_append]; rfl
    obtain ⟨a8, c8, rfl⟩ : ∃ a c, v8 = .slice a (X.trans.length + 1) c := own_slice (hk8.row 0 rfl)
    rw [e8] at hk8
    have HR8 := Lib.hid hr8
    have y0 := cells_at (hk8.at 0 rfl) 1
    have yf := free_at (hk8.at 0 rfl) 1
    have yz := hk8.lt 0 rfl
    have KP := Lib.hid (hk8.set 0 rfl 1 (.slice a8 (X.trans.length + 1) c8) rfl)
    clear hr8 hk8 hkb hvb e8
    go_wp2_with (at_builtin; refine wpList_append_run rfl _ _ 23 23 rfl _ _ _ w8 rfl rfl HR8.out ?_)
    go_meet
    exact ⟨_, _, _, ⟨X.types, X.trans ++ [(⟨36028797018963969, 0⟩ : Tr)], X.foot⟩, KP.out.less (List.nil_sublist _), ⟨LcV.own (KP.out.row 1 rfl) rfl, TrV.own (KP.out.row 0 rfl) rfl, HS0.out.symm, HF0.out.lcs, (fun t ht => by
     rcases List.mem_append.1 ht with ht | ht
     · exact HF0.out.trs t ht
     · rw [List.mem_singleton.1 ht]; exact ⟨by decide, by decide⟩)⟩, spoil_3 HR0.out (by decide) _, by dsimp only; rw [List.length_append, HN0.out]; show N + 1 ≤ 10000; omega⟩
  · have KP := Lib.hid (K7.out.set 0 rfl 2 (.string ⟨#[120]⟩) rfl)
    go_wp2_with fail
    go_meet
    exact ⟨_, _, _, ⟨X.types, X.trans, [120]⟩, KP.out.less (List.nil_sublist _), ⟨LcV.own (KP.out.row 1 rfl) rfl, TrV.own (KP.out.row 0 rfl) rfl, rfl, HF0.out.lcs, HF0.out.trs⟩, spoil_4 HR0.out foot_x, by dsimp only; rw [HN0.out]; omega⟩
  · obtain ⟨o0, b0, s0⟩ := k0
    obtain ⟨d0, d1, d2⟩ := lc_cell (K7.out.row 1 rfl) (show X.types[0]? = some ⟨o0, b0, s0⟩ by rw [HKs.out]; rfl)
    simp only [Nat.zero_mul, Nat.zero_add] at d0 d1 d2
    obtain ⟨i0, hi, hz0, hz1, hz2⟩ := info_parts infoLc42
    have hkb := (K7.out.swap.alloc (.cells #[.int .i64 o0, .bool b0, .string s0] 28)).drew
    have hvb : SlV (X7.alloc (.cells #[.int .i64 o0, .bool b0, .string s0] 28)).drew (.slice (some ⟨X7.heap.size, 0, none⟩) 1 1) 3 1 [.int .i64 o0, .bool b0, .string s0] := SlV.of_block (hkb.at 0 rfl) (by omega) (by unfold maxLen; omega) (by simp)
    obtain ⟨v8, w8, hr8, hk8⟩ := append_flat Tryz.underlying22 hi hz0 hz1 hz2 rfl (by decide) (by omega) hkb 1 _ _ hvb (by intro u hu; simp only [List.mem_cons, List.not_mem_nil, or_false] at hu; rcases hu with rfl | rfl | rfl <;> rfl) (fun c e => by cases e) (by rw [HM0.out]; omega)
    have hk8 := hk8.drop
    have e8 : (⟨v8, 28, 3, X.types.length + 1, X.types.flatMap Lc.cells ++ [.int .i64 o0, .bool b0, .string s0]⟩ : Rw) = lRow v8 (X.types ++ [⟨o0, b0, s0⟩]) := by unfold lRow; rw [List.length_append, List.flatMap_append]; rfl
    obtain ⟨a8, c8, rfl⟩ : ∃ a c, v8 = .slice a (X.types.length + 1) c := own_slice (hk8.row 0 rfl)
    rw [e8] at hk8
    have HR8 := Lib.hid hr8
    have y0 := cells_at (hk8.at 0 rfl) 0
    have yf := free_at (hk8.at 0 rfl) 0
    have yz := hk8.lt 0 rfl
    have KP := Lib.hid (hk8.set 0 rfl 0 (.slice a8 (X.types.length + 1) c8) rfl)
    have hM1 : (0 : Int) < (M : Int) := by omega
    clear hr8 hk8 hkb hvb e8
    go_upto_region 7 with fail
    go_region_law (first
     | (refine step_append_run (by rfl) (.tmp 38) (.tmp 43) 22 22 (by rfl) _ _ _ w8 (by rfl) (by rfl) HR8.out ?_))
    all_goals
     go_wp2_with fail
     go_meet
     exact ⟨_, _, _, ⟨X.types ++ [⟨o0, b0, s0⟩], X.trans, X.foot⟩, KP.out.less (List.nil_sublist _), ⟨LcV.own (KP.out.row 0 rfl) rfl, TrV.own (KP.out.row 1 rfl) rfl, HS0.out.symm, (fun l hl => by
      rcases List.mem_append.1 hl with hl | hl
      · exact HF0.out.lcs l hl
      · rw [List.mem_singleton.1 hl]; exact HF0.out.lcs _ (by rw [HKs.out]; exact List.mem_cons_self ..)), HF0.out.trs⟩, spoil_5 HR0.out (by rw [HM0.out]; omega) (by rw [HKs.out]; exact List.mem_cons_self ..) _ _, by dsimp only; rw [HN0.out]; omega⟩
 case rest =>
  obtain ⟨tv, rv, f, X', hk, hT, hne, hmx⟩ := hcut
  obtain ⟨ta, tc, htv, _, _⟩ := hT.types.slice
  obtain ⟨ra, rc, hrv, _, _⟩ := hT.trans.slice
  obtain ⟨M', hM'⟩ : ∃ n, X'.types.length = n := ⟨_, rfl⟩
  obtain ⟨N', hN'⟩ : ∃ n, X'.trans.length = n := ⟨_, rfl⟩
  rw [hM'] at htv
  rw [hN'] at hrv
  subst htv hrv
  obtain ⟨E, hE⟩ : ∃ E, checkE X' = E := ⟨_, rfl⟩
  rw [hE] at hne
  have K8 := Lib.hid hk
  have HT := Lib.hid hT
  have HMx := Lib.hid hmx
  have C1 := Lib.hid (CC.out X' _ _ _ wc hT (HE.out.keep hk.below).env)
  have C2 := Lib.hid (fun w h hE => CV.out X' (.slice ta M' tc) (.slice ra N' rc) f w h hE)
  have C3 := Lib.hid (fun w h hE => CE.out X' (.slice ta M' tc) (.slice ra N' rc) f 9 w h hE hmx)
  rw [hE] at C1
  rw [versE_bad hE hne] at C2
  rw [encE_bad 9 hE hne] at C3
  dsimp only at C2 C3
  clear hk hT hmx x0 x1 x2 xf0 xf1 xf2 zx zg K7 hE hM' hN'
  obtain ⟨⟨x0, x1, x2⟩, _, _, _⟩ := row3 (K8.out.at 0 rfl)
  go_wp2_with fail
  refine C1.out.mono ?_
  rintro _ w9 ⟨rfl, hb⟩
  have K9 := Lib.hid (K8.out.keep hb)
  have T9 := Lib.hid (HT.out.keep hb)
  clear hb x0 x1 x2 K8 HT C1
  obtain ⟨⟨x0, x1, x2⟩, _, _, _⟩ := row3 (K9.out.at 0 rfl)
  go_wp2_with fail
  refine (C2.out _ T9.out (HE.out.keep K9.out.below).env).mono ?_
  rintro _ w10 ⟨rfl, hb⟩
  have K10 := Lib.hid (K9.out.keep hb)
  have T10 := Lib.hid (T9.out.keep hb)
  clear hb x0 x1 x2 K9 T9 C2
  obtain ⟨⟨x0, x1, x2⟩, _, _, _⟩ := row3 (K10.out.at 0 rfl)
  go_wp2_with fail
  refine (C3.out _ T10.out (HE.out.keep K10.out.below)).mono ?_
  rintro _ w11 ⟨ov, rfl, hk⟩
  obtain ⟨e11, f11, rfl⟩ := bRow_slice (hk.row 0 rfl)
  have K11 := Lib.hid (K10.out.adopt hk)
  clear hk x0 x1 x2 K10 C3
  go_wp2_with fail
  refine (CW.out _ (HE.out.keep K11.out.below)).mono ?_
  rintro _ w12 ⟨rfl, hb⟩
  have K12 := Lib.hid (K11.out.keep hb)
  clear hb
  go_wp2_with fail
  go_ret
  exact ⟨by simp [hne], K12.out.below⟩
end Go.Proofs.YtkpmmabdpeobaaaGreatDoor.Px
namespace Go.Proofs.YtkpmmabdpeobaaaGreatDoor.Px
open Go.RowKit
open Civ Tb
theorem tzifRefuses_walk (x : D40) (tv sv nv : Value) {W : World} (h : D40V W tv sv nv x) (hin : D40.In x) (n : Int) (hn : (Lit.int .u8 n).wf = true) (hE : EnvAt W) (hm : ∃ m, W.cell? ⟨1, 0, none⟩ = some (.int .i64 m)) :
 Calls Tryz.prog 6 #[d40val x tv sv nv, .int .u8 n] W fun e w' => e = .returned (.bool true) ∧ Below W.heap.size W w' := by
 obtain ⟨TY, ST, NX, be, fo, ba⟩ := x
 exact tzifRefuses_cells TY ST NX be fo ba tv sv nv n W h hin (wf_u8 hn).1 (by have := (wf_u8 hn).2; omega) ⟨hE, hm⟩
end Go.Proofs.YtkpmmabdpeobaaaGreatDoor.Px
namespace Go.Proofs.YtkpmmabdpeobaaaGreatDoor
open Go.ChangeShapes Go.WideShapes Go.ChangeAt Go.RowKit
open Go.ChangeMaps (open_string)
namespace tzifRefuses
theorem own : ownKnob Tryz.prog.godebug = none := by kernel_rfl
set_option maxRecDepth 100000 in
theorem lifted (os : Os) (started : os.Started) (H : Type) (enc : TypeId × Value → H) :
 ReturnsInHanded {} Tryz.checked os 6 .any (fun w args => (Rows.tzifRefusesSpec.pre enc Tryz.prog Tryz.f6 Rows.tzifRefusesRow.domain false w args ∧ laidMetH Tryz.prog Rows.tzifRefusesRow.laid w) ∧ sizedMet enc Tryz.prog Tryz.f6 (OpenSpec.ofChange Rows.tzifRefusesSpec) false w args)
  (Rows.tzifRefusesSpec.post enc Tryz.prog Tryz.f6 false true false false) := by
 refine handed_both (X := fun w _ => laidMetH Tryz.prog Rows.tzifRefusesRow.laid w) (fun _ _ _ hh h => h.of_heap hh) own started (by kernel_rfl) Tryz.func6
  (ChangeSpec.witness_shaped (enc := enc) (C := Tryz.checked) (os := os) (X := fun w _ => laidMetH Tryz.prog Rows.tzifRefusesRow.laid w) false ((World.doorLaid Tryz.prog 4000 os).layVars Tryz.prog [("unicode/utf8.first", Rows.laid_unicode_utf8_first)]) #[.agg #[.slice none 0 0, .slice none 0 0, .slice none 0 0, .int .i32 0, .int .u8 0, .int .u8 0], .int .u8 0] 8 (door_os os)
   (World.shaped_of_ZipB (by kernel_rfl) (by kernel_rfl)) (by kernel_rfl) (by kernel_rfl) (by kernel_rfl) (door_met os _)) ?_
 intro W base args ds gs before hval0 hW hSh _ hL
 have hMx := maxLen_cell hSh
 have hval : ∀ (j : Nat) t v, Tryz.f6.params[j]? = some t → args[j]? = some v → Value.okWide Tryz.prog W .any base t v := hval0
 have hEnv : Px.EnvAt W := Px.env_of hL
 have hW' := hW
 obtain ⟨p, q, hA0, hV, rfl, _, _⟩ := hW
 have hA : DataW.TrodAll enc Tryz.prog W 0 (fun _ => true) true Tryz.f6.params.toList args.toList ds p := hA0
 rw [Tryz.params6] at hA hval
 obtain ⟨v0, vs0, d0, ds0, p0, q0, hargs, rfl, rfl, h0, r0⟩ := trodAll_cons hA
 obtain ⟨v1, vs1, d1, ds1, p1, q1, rfl, rfl, rfl, h1, r1⟩ := trodAll_cons r0
 obtain ⟨rfl, rfl, rfl⟩ := trodAll_nil r1
 obtain rfl : args = #[v0, v1] := by cases args; simp_all
 obtain ⟨rfl, rfl⟩ := trodVars_none hV
 obtain ⟨x0, tv0, sv0, nv0, rfl, hx0, hd0⟩ := Px.open_d40 (hval 0 41 v0 rfl rfl) h0
 obtain ⟨n1, rfl, rfl, rfl, hn1⟩ := open_int Tryz.underlying5 (hval 1 5 v1 rfl rfl) h1
 refine (Px.tzifRefuses_walk x0 tv0 sv0 nv0 hx0 hd0 n1 hn1 hEnv hMx).mono fun e W' ⟨he, hB⟩ => ?_
 subst he
 refine ⟨_, rfl, post_law (by kernel_rfl) ?_ rfl hW' rfl rfl Tryz.underlying4 hB⟩
 rw [Tryz.params6]
 intro t ht
 have hall : ([41, 5].all fun u => Tryz.prog.readableRec u && decide (u < Tryz.prog.types.size)) = true := by kernel_rfl
 have h1 := List.all_eq_true.1 hall t ht
 have h2 : Tryz.prog.readableRec t = true ∧ t < Tryz.prog.types.size := by simpa using h1
 exact h2
set_option maxHeartbeats 8000000 in
theorem facts : joinedFacts Tryz.pinned.checked.prog 6 Tryz.f6 Rows.tzifRefusesSpec Rows.tzifRefusesRow = true := by
 simp only [joinedFacts, Bool.and_eq_true]
 and_intros
 all_goals (as_aux_lemma => kernel_rfl)
theorem named : Tryz.pinned.checked.prog.funcNamed Rows.tzifRefusesRow.func = some 6 := by kernel_rfl
theorem said : Rows.TzifRefusesSaid :=
 OpenClaim.holds_of_wide 6 Tryz.f6 rfl rfl rfl rfl rfl rfl rfl ⟨rfl, rfl, rfl, rfl, rfl⟩ rfl rfl rfl rfl rfl named Tryz.func6 facts
  (of_decide_eq_true (by kernel_rfl)) (by unfold Func.isWrapper; first | (rw [if_pos (by decide +kernel)]; kernel_rfl) | (rw [if_neg (by decide +kernel)]; exact ⟨rfl, rfl⟩))
  (fun os started H enc _ => lifted os started H enc)
theorem plain (f : FuncId) (fn : Func) (hf : Tryz.pinned.checked.prog.funcNamed "analemma/analemmalaw42.TzifRefuses" = some f) (hfn : Tryz.pinned.checked.prog.funcs[f]? = some fn) :
 true = Tryz.pinned.checked.prog.looks [] ∧ ∀ (j : Nat) t, fn.params[j]? = some t → Tryz.pinned.checked.prog.wantsStandIn t = false := by
 obtain rfl : f = 6 := Option.some.inj ((show Tryz.prog.funcNamed "analemma/analemmalaw42.TzifRefuses" = some 6 by kernel_rfl).symm.trans hf) |>.symm
 obtain rfl : fn = Tryz.f6 := (Option.some.inj (Tryz.func6.symm.trans hfn)).symm
 refine ⟨by kernel_rfl, fun j t ht => ?_⟩
 rw [Tryz.params6] at ht
 have hm : t ∈ [41, 5] := by simpa using Array.mem_of_getElem? ht
 have hall : ([41, 5].all fun u => !Tryz.prog.wantsStandIn u) = true := by kernel_rfl
 exact (show Tryz.prog.wantsStandIn t = false by simpa using List.all_eq_true.1 hall t hm)
theorem card : Rows.TzifRefusesCardSaid :=
 Claim7.holds_tied_plain_at .later [] _ _ _ _ said (fun _ h => by cases h) (by kernel_rfl) (fun _ h => by cases h) tzifRefuses_row_tie rfl ⟨rfl, rfl⟩ (by kernel_rfl) rfl plain (by kernel_rfl)
end tzifRefuses
#print axioms tzifRefuses.card
end Go.Proofs.YtkpmmabdpeobaaaGreatDoor
