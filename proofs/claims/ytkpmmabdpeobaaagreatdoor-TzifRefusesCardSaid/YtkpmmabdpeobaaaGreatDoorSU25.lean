/- Tables by numbers (chapter 40) that are handed to a law, opened. Local times and TZs by numbers (chapter 40): analemmalaw40.local, analemmalaw40.posixes. TZs by numbers (chapter 40): analemmalaw40.posixes. -/
import Derived.Test.YtkpmmabdpeobaaaGreatDoorSU20
import Derived.Test.YtkpmmabdpeobaaaGreatDoorSU15
namespace Go.Proofs.YtkpmmabdpeobaaaGreatDoor.Px
open Go.RowKit
open Civ Tb
open Go.Joins Go.ChangeShapes Go.WideShapes Go.Deep
def d40val (d : D40) (tv sv nv : Value) : Value := .agg #[tv, sv, nv, .int .i32 d.begin_, .int .u8 d.foot, .int .u8 d.base]
structure D40V (W : World) (tv sv nv : Value) (d : D40) : Prop where
 types : IsV W .u16 tv d.types
 steps : IsV W .u32 sv d.steps
 next : IsV W .u8 nv d.next
theorem D40V.keep {W W' : World} {tv sv nv : Value} {d : D40} (h : D40V W tv sv nv d) (hB : Below W.heap.size W W') : D40V W' tv sv nv d := ⟨h.types.keep hB, h.steps.keep hB, h.next.keep hB⟩
section
variable {H : Type} {enc : TypeId × Value → H} {w : World} {base : Nat} {spare : Nat → Bool} {held : Bool}
set_option maxRecDepth 100000 in
theorem open_d40 {r : Reach} {b0 : Nat} {v : Value} {d : DataW H} {p : List MemPlace} (hv : Value.okWide Tryz.prog w r b0 41 v) (h : DataW.Trod enc Tryz.prog w base spare held 41 v d p) :
 ∃ (q : D40) (tv sv nv : Value), v = d40val q tv sv nv ∧ D40V w tv sv nv q ∧ q.In := by
 obtain ⟨cs, rfl, hsz⟩ := okWide_struct Tryz.underlying41 hv
 have hC : Tryz.prog.cellsOf 41 = 6 := by kernel_rfl
 obtain ⟨l⟩ := cs
 match l, hsz.trans hC with
 | [c0, c1, c2, c3, c4, c5], _ =>
   obtain ⟨fuel, hf⟩ := h
   obtain ⟨xs, n, _, _, _, hlen, hg⟩ := DataW.trod_struct Tryz.underlying41 hf
   have h16 : Tryz.prog.cellsOf 38 = 1 := by kernel_rfl
   have h32 : Tryz.prog.cellsOf 39 = 1 := by kernel_rfl
   have h8 : Tryz.prog.cellsOf 32 = 1 := by kernel_rfl
   have hi : Tryz.prog.cellsOf 21 = 1 := by kernel_rfl
   have hu : Tryz.prog.cellsOf 5 = 1 := by kernel_rfl
   match xs, hlen with
   | [y0, y1, y2, y3, y4, y5], _ =>
     have g0 : DataW.trod enc Tryz.prog w base spare held n 38 ([c0, c1, c2, c3, c4, c5].take (Tryz.prog.cellsOf 38)) = some y0 := hg 0 _ rfl
     have g1 : DataW.trod enc Tryz.prog w base spare held n 39 ([c1, c2, c3, c4, c5].take (Tryz.prog.cellsOf 39)) = some y1 := hg 1 _ rfl
     have g2 : DataW.trod enc Tryz.prog w base spare held n 32 ([c2, c3, c4, c5].take (Tryz.prog.cellsOf 32)) = some y2 := hg 2 _ rfl
     have g3 : DataW.trod enc Tryz.prog w base spare held n 21 ([c3, c4, c5].take (Tryz.prog.cellsOf 21)) = some y3 := hg 3 _ rfl
     have g4 : DataW.trod enc Tryz.prog w base spare held n 5 ([c4, c5].take (Tryz.prog.cellsOf 5)) = some y4 := hg 4 _ rfl
     have g5 : DataW.trod enc Tryz.prog w base spare held n 5 ([c5].take (Tryz.prog.cellsOf 5)) = some y5 := hg 5 _ rfl
     rw [h16] at g0
     rw [h32] at g1
     rw [h8] at g2
     rw [hi] at g3
     rw [hu] at g4 g5
     obtain ⟨G, hG, fG⟩ := open_ints (v := c0) Tryz.underlying38 Tryz.underlying65 (by kernel_rfl) g0
     obtain ⟨S, hS, fS⟩ := open_ints (v := c1) Tryz.underlying39 Tryz.underlying42 (by kernel_rfl) g1
     obtain ⟨K, hK, fK⟩ := open_ints (v := c2) Tryz.underlying32 Tryz.underlying5 (by kernel_rfl) g2
     obtain ⟨x3, e3, _, z3⟩ := DataW.trod_int Tryz.underlying21 g3
     obtain ⟨x4, e4, _, z4⟩ := DataW.trod_int Tryz.underlying5 g4
     obtain ⟨x5, e5, _, z5⟩ := DataW.trod_int Tryz.underlying5 g5
     have e3' : c3 = .int .i32 x3 := by simpa using e3
     have e4' : c4 = .int .u8 x4 := by simpa using e4
     have e5' : c5 = .int .u8 x5 := by simpa using e5
     subst e3' e4' e5'
     exact ⟨⟨G, S, K, x3, x4, x5⟩, c0, c1, c2, rfl, ⟨hG, hS, hK⟩, ⟨fun x hx => wf_u16 (fG x hx), fun x hx => wf_u32 (fS x hx), fun x hx => wf_u8 (fK x hx), wf_i32 z3, wf_u8 z4, wf_u8 z5⟩⟩
end
end Go.Proofs.YtkpmmabdpeobaaaGreatDoor.Px
namespace Go.Proofs.YtkpmmabdpeobaaaGreatDoor.Px
open Go.RowKit
open Civ Tb
def ab12 : Array Value := #[.string ⟨#[71, 77, 84]⟩, .string ⟨#[66, 83, 84]⟩, .string ⟨#[76, 77, 84]⟩, .string ⟨#[87, 69, 83, 84]⟩, .string ⟨#[67, 69, 83, 84]⟩, .string ⟨#[65, 66, 67, 68, 69, 70]⟩, .string ⟨#[43, 48, 49]⟩, .string ⟨#[45, 48, 51, 51, 48]⟩, .string ⟨#[43, 48, 53, 51, 48, 48, 48]⟩, .string ⟨#[88, 121, 57]⟩, .string ⟨#[45, 48, 48]⟩, .string ⟨#[85, 84, 67]⟩]
theorem ab12_at : ∀ k : Nat, k < 12 → ab12[k]? = some (.string (bs (abbr12.getD k []))) := by
 intro k hk
 rcases (show k = 0 ∨ k = 1 ∨ k = 2 ∨ k = 3 ∨ k = 4 ∨ k = 5 ∨ k = 6 ∨ k = 7 ∨ k = 8 ∨ k = 9 ∨ k = 10 ∨ k = 11 by omega) with rfl | rfl | rfl | rfl | rfl | rfl | rfl | rfl | rfl | rfl | rfl | rfl <;> rfl
set_option maxHeartbeats 4000000 in
set_option maxRecDepth 100000 in
theorem local_any (n : Int) (n0 : 0 ≤ n) (n1 : n ≤ 65535) (W : World) :
 Calls Tryz.prog 46 #[.int .u16 n] W fun e w' => e = .returned (locN n).val ∧ Below W.heap.size W w' := by
 obtain ⟨k, hk⟩ : ∃ k : Nat, (n / 194 % 12).toNat = k := ⟨_, rfl⟩
 have hkl : k < 12 := by omega
 have hki : n / 194 % 12 = (k : Int) := by omega
 have hkt : (n / 194).tmod 12 = (k : Int) := by rw [Int.tmod_eq_emod_of_nonneg (by omega)]; exact hki
 obtain ⟨r, hr⟩ : ∃ r, n % 97 = r := ⟨_, rfl⟩
 have hrb : 0 ≤ r ∧ r < 97 := by omega
 have f1 : IntKind.i64.wrap (r - 48) = r - 48 := IntWalk.i64_in _ (by omega)
 have f2 : IntKind.i64.wrap (900 * (r - 48)) = 900 * (r - 48) := IntWalk.i64_in _ (by omega)
 have hloc : locN n = ⟨900 * (r - 48), decide (n / 97 % 2 = 1), bs (abbr12.getD k [])⟩ := by unfold locN; rw [hr, hk]
 rw [hloc]
 unfold Lc.val
 dsimp only
 have K0 := Lib.hid (((Kp.start W).alloc (.cells #[.int .i64 0, .bool false, .string ⟨#[]⟩] 28)).allocAt (W.heap.size + 1) (by simp) (.cells ab12 9))
 have c0 : ((W.alloc (.cells #[.int .i64 0, .bool false, .string ⟨#[]⟩] 28)).alloc (.cells ab12 9)).cell? ⟨W.heap.size + 1, k, none⟩ = some (.string (bs (abbr12.getD k []))) := (cells_at (K0.out.at 0 rfl) k).trans (ab12_at k hkl)
 unfold ab12 at c0
 obtain ⟨a, ha⟩ : ∃ a, bs (abbr12.getD k []) = a := ⟨_, rfl⟩
 rw [ha] at c0
 rw [ha]
 have hk12 : (k : Int) < 12 := by omega
 have hq : n / 97 % 2 = 0 ∨ n / 97 % 2 = 1 := by omega
 obtain ⟨q4, hq4⟩ : ∃ q, n.tdiv 194 = q := ⟨_, rfl⟩
 obtain ⟨q7, hq7⟩ : ∃ q, n.tdiv 97 = q := ⟨_, rfl⟩
 have e4 : n / 194 = q4 := by rw [← hq4, Int.tdiv_eq_ediv_of_nonneg n0]
 have e7 : n / 97 = q7 := by rw [← hq7, Int.tdiv_eq_ediv_of_nonneg n0]
 have f3 : IntKind.u16.wrap q4 = q4 := by
  have : 0 ≤ q4 ∧ q4 ≤ 65535 := by omega
  simp [IntKind.wrap, IntKind.bits]
  omega
 have f4 : IntKind.u16.wrap q7 = q7 := by
  have : 0 ≤ q7 ∧ q7 ≤ 65535 := by omega
  simp [IntKind.wrap, IntKind.bits]
  omega
 have b4 : 0 ≤ q4 ∧ q4 ≤ 65535 := by omega
 obtain ⟨b40, b41⟩ := b4
 rw [e4] at hki hkt
 rw [e7] at hq
 clear hloc ha hk hrb
 rcases hq with hq | hq
 · have hq2 : q7.tmod 2 = 0 := by rw [Int.tmod_eq_emod_of_nonneg (by omega)]; exact hq
   have hd : decide (n / 97 % 2 = 1) = false := by rw [e7]; exact decide_eq_false (by omega)
   rw [hd]
   clear hd e4 e7
   go_enter Tryz.func46, Tryz.ntmps46
   go_wp2_with fail
   refine bodyPost_ret (v := .agg #[.int .i64 (900 * (r - 48)), .bool false, .string a]) (by simp [results, Tryz.results46, go_sem]) rfl ⟨rfl, ?_⟩
   exact (((Kp.start W).alloc _).alloc _).below
 · have hq2 : q7.tmod 2 = 1 := by rw [Int.tmod_eq_emod_of_nonneg (by omega)]; exact hq
   have hd : decide (n / 97 % 2 = 1) = true := by rw [e7]; exact decide_eq_true hq
   rw [hd]
   clear hd e4 e7
   go_enter Tryz.func46, Tryz.ntmps46
   go_wp2_with fail
   refine bodyPost_ret (v := .agg #[.int .i64 (900 * (r - 48)), .bool true, .string a]) (by simp [results, Tryz.results46, go_sem]) rfl ⟨rfl, ?_⟩
   exact (((Kp.start W).alloc _).alloc _).below
end Go.Proofs.YtkpmmabdpeobaaaGreatDoor.Px
namespace Go.Proofs.YtkpmmabdpeobaaaGreatDoor.Px
open Go.RowKit
open Civ Tb
set_option maxRecDepth 100000 in
theorem month_any (m k d s : Int) (W : World) :
 Calls Tryz.prog 90 #[.int .i64 m, .int .i64 k, .int .i64 d, .int .i64 s] W fun e w' => e = .returned (.agg #[.int .i64 3, .int .i64 d, .int .i64 m, .int .i64 k, .int .i64 s]) ∧ Below W.heap.size W w' := by
 go_enter Tryz.func90, Tryz.ntmps90
 go_wp2_with fail
 refine bodyPost_ret (v := .agg #[.int .i64 3, .int .i64 d, .int .i64 m, .int .i64 k, .int .i64 s]) (by simp [results, Tryz.results90, go_sem]) rfl ⟨rfl, ?_⟩
 exact ((Kp.start W).alloc _).below
set_option maxHeartbeats 4000000 in
set_option maxRecDepth 100000 in
theorem posixes_any (n base : Int) (n0 : 0 ≤ n) (n1 : n ≤ 255) (b0 : 0 ≤ base) (b1 : base ≤ 255) (W : World) :
 Calls Tryz.prog 44 #[.int .u8 n, .int .u8 base] W fun e w' => e = .returned (posixN n base).val ∧ Below W.heap.size W w' := by
 obtain ⟨r, hr⟩ : ∃ r, base % 25 = r := ⟨_, rfl⟩
 have hrb : 0 ≤ r ∧ r < 25 := by omega
 obtain ⟨hr0, hr1⟩ := hrb
 have f1 : IntKind.i64.wrap (r - 12) = r - 12 := IntWalk.i64_in _ (by omega)
 have f2 : IntKind.i64.wrap (1800 * (r - 12)) = 1800 * (r - 12) := IntWalk.i64_in _ (by omega)
 obtain ⟨o, ho⟩ : ∃ o, 1800 * (r - 12) = o := ⟨_, rfl⟩
 have hob : -100000 ≤ o ∧ o ≤ 100000 := by omega
 obtain ⟨ho0, ho1⟩ := hob
 have hcast : (((base % 25).toNat : Nat) : Int) = r := by omega
 have e80 : ∀ args w, (callFunc 90 args).run Tryz.prog w = .ok (.enter 90 args) w := enters_of Tryz.func90 (by kernel_rfl) rfl
 have CM := Lib.hid (fun m k d s w => month_any m k d s w)
 have hq : n % 4 = 0 ∨ n % 4 = 1 ∨ n % 4 = 2 ∨ n % 4 = 3 := by omega
 rw [ho] at f2
 have HO := Lib.hid ho
 rcases hq with e | hq
 · have hv : posixN n base = ⟨⟨#[83, 84, 68]⟩, o, ⟨#[]⟩, 0, ⟨0, 0, 0, 0, 0⟩, ⟨0, 0, 0, 0, 0⟩⟩ := by
     unfold posixN posixK
     rw [hcast, show (n % 4).toNat = 0 by omega, ho]
     rfl
   rw [hv]
   unfold Pos.val
   dsimp only
   clear hv hcast hr0 hr1
   go_enter Tryz.func44, Tryz.ntmps44
   go_wp2_with fail
   refine bodyPost_ret (v := .agg #[.string ⟨#[83, 84, 68]⟩, .int .i64 o, .string ⟨#[]⟩, .int .i64 0, .int .i64 0, .int .i64 0, .int .i64 0, .int .i64 0, .int .i64 0, .int .i64 0, .int .i64 0, .int .i64 0, .int .i64 0, .int .i64 0]) (by simp [results, Tryz.results44, go_sem]) rfl ⟨rfl, ?_⟩
   exact (((Kp.start W).alloc _).alloc _).below
 rcases hq with e | hq
 · have hv : posixN n base = ⟨⟨#[83, 84, 68]⟩, o, ⟨#[68, 83, 84]⟩, o + 3600, ⟨3, 0, 3, 5, 7200⟩, ⟨3, 0, 10, 5, 10800⟩⟩ := by
     unfold posixN posixK
     rw [hcast, show (n % 4).toNat = 1 by omega, ho]
     rfl
   rw [hv]
   unfold Pos.val
   dsimp only
   have f3 : IntKind.i64.wrap (o + 3600) = o + 3600 := IntWalk.i64_in _ (by omega)
   have K1 := Lib.hid (((Kp.start W).alloc (.cells #[.string ⟨#[]⟩, .int .i64 0, .string ⟨#[]⟩, .int .i64 0, .int .i64 0, .int .i64 0, .int .i64 0, .int .i64 0, .int .i64 0, .int .i64 0, .int .i64 0, .int .i64 0, .int .i64 0, .int .i64 0] 50)).allocAt (W.heap.size + 1) (by simp) (.cells #[.string ⟨#[83, 84, 68]⟩, .int .i64 o, .string ⟨#[68, 83, 84]⟩, .int .i64 (o + 3600), .int .i64 0, .int .i64 0, .int .i64 0, .int .i64 0, .int .i64 0, .int .i64 0, .int .i64 0, .int .i64 0, .int .i64 0, .int .i64 0] 50))
   clear hv hcast hr0 hr1
   go_enter Tryz.func44, Tryz.ntmps44
   go_wp2_with fail
   refine (CM.out 3 5 0 7200 _).mono ?_
   rintro _ V ⟨rfl, hb⟩
   have K2 := Lib.hid (K1.out.keep hb)
   clear hb
   go_wp2_with fail
   refine (CM.out 10 5 0 10800 _).mono ?_
   rintro _ V2 ⟨rfl, hb⟩
   have K3 := Lib.hid (K2.out.keep hb)
   clear hb
   obtain ⟨x0, x1, x2, x3, x4, x5, x6, x7, x8, x9, x10, x11, x12, x13⟩ := row14 (K3.out.at 0 rfl)
   obtain ⟨y0, y1, y2, y3, y4, y5, y6, y7, y8, y9, y10, y11, y12, y13⟩ := row14 (K3.out.at 1 rfl)
   obtain ⟨s0, s1, s2, s3, s4, s5, s6, s7, s8, s9, s10, s11, s12, s13⟩ := free14 (K3.out.at 0 rfl)
   obtain ⟨t0, t1, t2, t3, t4, t5, t6, t7, t8, t9, t10, t11, t12, t13⟩ := free14 (K3.out.at 1 rfl)
   have z0 := K3.out.lt 0 rfl
   have z1 := K3.out.lt 1 rfl
   go_wp2_with fail
   refine bodyPost_ret (v := .agg #[.string ⟨#[83, 84, 68]⟩, .int .i64 o, .string ⟨#[68, 83, 84]⟩, .int .i64 (o + 3600), .int .i64 3, .int .i64 0, .int .i64 3, .int .i64 5, .int .i64 7200, .int .i64 3, .int .i64 0, .int .i64 10, .int .i64 5, .int .i64 10800]) (by simp [results, Tryz.results44, go_sem, y0, y1, y2, y3, y4, y5, y6, y7, y8, y9, y10, y11, y12, y13]) rfl ⟨rfl, ?_⟩
   iterate 24 refine Below.setCell ?_ (by simp) _
   exact K3.out.below
 rcases hq with e | hq
 · have hv : posixN n base = ⟨⟨#[83, 84, 68]⟩, o, ⟨#[68, 83, 84]⟩, o - 3600, ⟨3, 0, 10, 5, 7200⟩, ⟨3, 6, 3, 2, 3600⟩⟩ := by
     unfold posixN posixK
     rw [hcast, show (n % 4).toNat = 2 by omega, ho]
     rfl
   rw [hv]
   unfold Pos.val
   dsimp only
   have f3 : IntKind.i64.wrap (o - 3600) = o - 3600 := IntWalk.i64_in _ (by omega)
   have K1 := Lib.hid (((Kp.start W).alloc (.cells #[.string ⟨#[]⟩, .int .i64 0, .string ⟨#[]⟩, .int .i64 0, .int .i64 0, .int .i64 0, .int .i64 0, .int .i64 0, .int .i64 0, .int .i64 0, .int .i64 0, .int .i64 0, .int .i64 0, .int .i64 0] 50)).allocAt (W.heap.size + 1) (by simp) (.cells #[.string ⟨#[83, 84, 68]⟩, .int .i64 o, .string ⟨#[68, 83, 84]⟩, .int .i64 (o - 3600), .int .i64 0, .int .i64 0, .int .i64 0, .int .i64 0, .int .i64 0, .int .i64 0, .int .i64 0, .int .i64 0, .int .i64 0, .int .i64 0] 50))
   clear hv hcast hr0 hr1
   go_enter Tryz.func44, Tryz.ntmps44
   go_wp2_with fail
   refine (CM.out 10 5 0 7200 _).mono ?_
   rintro _ V ⟨rfl, hb⟩
   have K2 := Lib.hid (K1.out.keep hb)
   clear hb
   go_wp2_with fail
   refine (CM.out 3 2 6 3600 _).mono ?_
   rintro _ V2 ⟨rfl, hb⟩
   have K3 := Lib.hid (K2.out.keep hb)
   clear hb
   obtain ⟨x0, x1, x2, x3, x4, x5, x6, x7, x8, x9, x10, x11, x12, x13⟩ := row14 (K3.out.at 0 rfl)
   obtain ⟨y0, y1, y2, y3, y4, y5, y6, y7, y8, y9, y10, y11, y12, y13⟩ := row14 (K3.out.at 1 rfl)
   obtain ⟨s0, s1, s2, s3, s4, s5, s6, s7, s8, s9, s10, s11, s12, s13⟩ := free14 (K3.out.at 0 rfl)
   obtain ⟨t0, t1, t2, t3, t4, t5, t6, t7, t8, t9, t10, t11, t12, t13⟩ := free14 (K3.out.at 1 rfl)
   have z0 := K3.out.lt 0 rfl
   have z1 := K3.out.lt 1 rfl
   go_wp2_with fail
   refine bodyPost_ret (v := .agg #[.string ⟨#[83, 84, 68]⟩, .int .i64 o, .string ⟨#[68, 83, 84]⟩, .int .i64 (o - 3600), .int .i64 3, .int .i64 0, .int .i64 10, .int .i64 5, .int .i64 7200, .int .i64 3, .int .i64 6, .int .i64 3, .int .i64 2, .int .i64 3600]) (by simp [results, Tryz.results44, go_sem, y0, y1, y2, y3, y4, y5, y6, y7, y8, y9, y10, y11, y12, y13]) rfl ⟨rfl, ?_⟩
   iterate 24 refine Below.setCell ?_ (by simp) _
   exact K3.out.below
 have e := hq
 have hv : posixN n base = ⟨⟨#[43, 48, 53]⟩, o, ⟨#[43, 48, 54]⟩, o + 1800, ⟨1, 60, 0, 0, 0⟩, ⟨2, 300, 0, 0, 86400⟩⟩ := by
  unfold posixN posixK
  rw [hcast, show (n % 4).toNat = 3 by omega, ho]
  rfl
 rw [hv]
 unfold Pos.val
 dsimp only
 have f3 : IntKind.i64.wrap (o + 1800) = o + 1800 := IntWalk.i64_in _ (by omega)
 clear hv hcast hr0 hr1
 go_enter Tryz.func44, Tryz.ntmps44
 go_wp2_with fail
 refine bodyPost_ret (v := .agg #[.string ⟨#[43, 48, 53]⟩, .int .i64 o, .string ⟨#[43, 48, 54]⟩, .int .i64 (o + 1800), .int .i64 1, .int .i64 60, .int .i64 0, .int .i64 0, .int .i64 0, .int .i64 2, .int .i64 300, .int .i64 0, .int .i64 0, .int .i64 86400]) (by simp [results, Tryz.results44, go_sem]) rfl ⟨rfl, ?_⟩
 exact (((Kp.start W).alloc _).alloc _).below
end Go.Proofs.YtkpmmabdpeobaaaGreatDoor.Px
