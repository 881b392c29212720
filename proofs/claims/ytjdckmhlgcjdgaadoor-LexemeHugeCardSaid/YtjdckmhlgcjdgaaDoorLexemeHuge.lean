/- The law LexemeHuge returns true, and its tied card holds; no condition beyond the row itself. -/
import Derived.Test.YtjdckmhlgcjdgaaDoorLxC
import Derived.Test.YtjdckmhlgcjdgaaDoorLxS
import Derived.Test.YtjdckmhlgcjdgaaDoorLaw
namespace Go.Proofs.YtjdckmhlgcjdgaaDoor
open Go.ChangeShapes Go.WideShapes Go.ChangeAt Go.RowKit
open Go.ChangeMaps (open_string)
open Lx
open Lex (strV bytesOf fieldsL fieldsE)

theorem max_at {W : World} (h : W.ShapedOpen Tryd.prog) : MaxAt W := by
  obtain ⟨m, hm⟩ := maxLen_cell h
  exact ⟨block_lt_of_cell hm, m, hm⟩
theorem rep_is (s o : ByteArray) (k : Nat) (z : Int) (hz : z = k) (hs : s.size ≤ 1000) (hc : k ≤ 100000000) (ho : bytesOf (Lib.repeatL s.data.toList k) = o) (w : World) :
    Calls Tryd.prog 29 #[.string s, .int .i64 z] w fun e w' => e = .returned (.string o) ∧ Below w.heap.size w w' := by
  subst hz
  have hm : s.size * k ≤ 1000 * 100000000 := Nat.mul_le_mul hs hc
  refine (Tryd.strings_Repeat s k w (by omega) (by omega)).mono ?_
  rintro e V ⟨rfl, hB⟩
  exact ⟨by rw [← ho]; rfl, hB⟩
def sp (k : Nat) : List UInt8 := List.replicate k 32
theorem sp_rep (k : Nat) : Lib.repeatL [32] k = sp k := by
  induction k with
  | zero => rfl
  | succ k ih => rw [Lib.repeatL, ih]; rfl
theorem sp_no10 (k : Nat) : splitB 10 (sp k) = [sp k] := splitB_no 10 _ (fun b hb => by
  unfold sp at hb
  rw [(List.mem_replicate.1 hb).2]; decide)
theorem rep_end (s : List UInt8) (k : Nat) : Lib.repeatL s (k + 1) = Lib.repeatL s k ++ s := by
  induction k with
  | zero => simp [Lib.repeatL]
  | succ k ih =>
    have e : Lib.repeatL s (k + 1 + 1) = s ++ Lib.repeatL s (k + 1) := rfl
    have e2 : Lib.repeatL s (k + 1) = s ++ Lib.repeatL s k := rfl
    rw [e]
    conv => lhs; rw [ih]
    rw [e2, List.append_assoc]
theorem trim_app (l : List UInt8) : trimNL (l ++ [10]) = l := by
  induction l with
  | nil => rfl
  | cons c r ih =>
    cases r with
    | nil => rfl
    | cons d t =>
      simp only [List.cons_append, trimNL] at ih ⊢
      rw [ih]
theorem rep_split (w : Nat) (k : Nat) : splitB 10 (Lib.repeatL (sp w ++ [10]) k ++ sp w) = List.replicate (k + 1) (sp w) := by
  induction k with
  | zero => rw [Lib.repeatL, List.nil_append, sp_no10]; rfl
  | succ k ih =>
    have e : Lib.repeatL (sp w ++ [10]) (k + 1) ++ sp w = sp w ++ 10 :: (Lib.repeatL (sp w ++ [10]) k ++ sp w) := by simp [Lib.repeatL]
    rw [e, splitB_join, ih, sp_no10]; rfl
theorem rep_raw (w k : Nat) : rawL (Lib.repeatL (sp w ++ [10]) (k + 1)) = List.replicate (k + 1) (sp w) := by
  unfold rawL
  rw [rep_end, ← List.append_assoc, trim_app, rep_split]
theorem rep_ok (w k : Nat) (hw : w ≤ 300) : (List.replicate k (sp w)).any tooLong = false := by
  rw [List.any_eq_false]
  intro p hp
  rw [(List.mem_replicate.1 hp).2]
  simp [tooLong, sp]
  omega
/-- the lines of such a text -/
theorem rep_lines (w k N : Nat) (T : ByteArray) (hw : w ≤ 300) (hT : T.data.toList = Lib.repeatL (sp w ++ [10]) (k + 1)) (hN : N = k + 1) (hz : T.size ≤ 8388608) :
    ∃ L, linesL T.data.toList = L ∧ L.length = N ∧ linesN T.data.toList = 0 ∧ linesE T.data.toList = 0 := by
  have ha : (rawL T.data.toList).any tooLong = false := by rw [hT, rep_raw]; exact rep_ok w _ hw
  have hnb : ¬ 8388608 < T.data.toList.length := by rw [Lex.len_eq]; omega
  have hn : ¬ (8388608 < T.data.toList.length ∨ (rawL T.data.toList).any tooLong = true) := by rw [ha]; simpa using hnb
  refine ⟨_, rfl, ?_, ?_, ?_⟩
  · unfold linesL
    rw [if_neg hn, hT, rep_raw, List.length_replicate, hN]
  · unfold linesN; rw [if_neg hnb, if_neg (by rw [ha]; simp)]
  · unfold linesE; rw [if_neg hn]
theorem big_lines (T : ByteArray) (hz : 8388608 < T.size) : linesL T.data.toList = [] ∧ linesN T.data.toList = 1 ∧ linesE T.data.toList = 6 := by
  have h : 8388608 < T.data.toList.length := by rw [Lex.len_eq]; exact hz
  unfold linesL linesN linesE
  rw [if_pos (.inl h), if_pos h, if_pos (.inl h)]
  exact ⟨rfl, rfl, rfl⟩

set_option maxHeartbeats 4000000 in
set_option maxRecDepth 100000 in
theorem lexemeHuge_walk (W : World) (hm : MaxAt W) :
    Calls Tryd.prog 10 #[] W fun e w' => e = .returned (.bool true) ∧ Below W.heap.size W w' := by
  have HM := Lib.hid hm
  obtain ⟨x, hx⟩ : ∃ x, bytesOf (sp 255) = x := ⟨_, rfl⟩
  have hxl : x.data.toList = sp 255 := by rw [← hx]; rfl
  have hxz : x.size = 255 := by rw [← Lex.len_eq, hxl]; unfold sp; rw [List.length_replicate]
  have CR1 := Lib.hid (rep_is ⟨#[32]⟩ x 255 255 rfl (by decide) (by omega) (by rw [← hx]; show bytesOf (Lib.repeatL [32] 255) = _; rw [sp_rep]))
  have hyl : (x ++ ⟨#[10]⟩).data.toList = sp 255 ++ [10] := by rw [app_list, hxl]
  have hyz : (x ++ ⟨#[10]⟩).size = 256 := by rw [ByteArray.size_append, hxz]; rfl
  obtain ⟨K, hK⟩ : ∃ K, 32767 = K := ⟨_, rfl⟩
  obtain ⟨T, hT⟩ : ∃ T, bytesOf (Lib.repeatL (sp 255 ++ [10]) (K + 1)) = T := ⟨_, rfl⟩
  have hTl : T.data.toList = Lib.repeatL (sp 255 ++ [10]) (K + 1) := by rw [← hT]; rfl
  have hTz : T.size = 8388608 := by
    rw [← Lex.len_eq, hTl, Lib.repeatL_length, ← hyl, Lex.len_eq, hyz]
    omega
  have CR2 := Lib.hid (rep_is (x ++ ⟨#[10]⟩) T (K + 1) 32768 (by omega) (by omega) (by omega) (by rw [hyl, hT]))
  obtain ⟨L, e1, e2, e3, e4⟩ := rep_lines 255 K 32768 T (by omega) hTl (by omega) (by omega)
  have CL := Lib.hid (fun (V : World) (h : MaxAt V) => lines_any T (by unfold maxLen; omega) V h.2)
  unfold LinesPost at CL
  rw [e1, e3, e4] at CL
  have hT1 : (T ++ ⟨#[120]⟩).size = 8388609 := by rw [ByteArray.size_append, hTz]; rfl
  obtain ⟨f1, f2, f3⟩ := big_lines (T ++ ⟨#[120]⟩) (by omega)
  have CL2 := Lib.hid (fun (V : World) (h : MaxAt V) => lines_any (T ++ ⟨#[120]⟩) (by unfold maxLen; omega) V h.2)
  unfold LinesPost at CL2
  rw [f1, f2, f3] at CL2
  have hx1 : x.size ≤ 255 := by omega
  have hT2 : T.size ≤ 8388608 := by omega
  have hL2 : ((L.length : Int) == 32768) = true := by rw [beq_iff_eq]; omega
  clear hx hxl hxz hyl hyz hK hT hTl hTz e1 e2 e3 e4 f1 f2 f3 hT1 hm
  go_enter Tryd.func10, Tryd.ntmps10
  go_wp2_with fail
  refine (CR1.out _).mono ?_
  rintro e V1 ⟨rfl, k1⟩
  have B1 := Lib.hid k1
  clear k1
  go_wp2_with fail
  refine (CR2.out _).mono ?_
  rintro e V2 ⟨rfl, k2⟩
  have B2 := Lib.hid (B1.out.trans (k2.mono B1.out.size))
  clear k2
  go_wp2_with fail
  refine (CL.out _ (HM.out.keep B2.out)).mono ?_
  rintro e V3 ⟨v3, rfl, a3, k3⟩
  have B3 := Lib.hid (B2.out.trans (k3.mono B2.out.size))
  obtain ⟨ad3, cp3, rfl, _, _, _⟩ := a3
  clear k3
  go_wp2_with fail
  refine (CL2.out _ (HM.out.keep B3.out)).mono ?_
  rintro e V4 ⟨v4, rfl, a4, k4⟩
  have B4 := Lib.hid (B3.out.trans (k4.mono B3.out.size))
  obtain ⟨ad4, cp4, rfl, _, _, _⟩ := a4
  clear k4
  go_wp2_with fail
  refine (works_any _ (HM.out.keep B4.out)).mono ?_
  rintro e V6 ⟨rfl, k6⟩
  go_wp2
  go_ret
  exact ⟨rfl, B4.out.trans (k6.mono B4.out.size)⟩

namespace lexemeHuge
theorem own : ownKnob Tryd.prog.godebug = none := by kernel_rfl
set_option maxRecDepth 100000 in
theorem lifted (os : Os) (started : os.Started) (H : Type) (enc : TypeId × Value → H) :
    ReturnsInHanded {} Tryd.checked os 10 .any (fun w args => (Rows.lexemeHugeSpec.pre enc Tryd.prog Tryd.f10 Rows.lexemeHugeRow.domain false w args ∧ laidMetH Tryd.prog Rows.lexemeHugeRow.laid w) ∧ sizedMet enc Tryd.prog Tryd.f10 (OpenSpec.ofChange Rows.lexemeHugeSpec) false w args)
      (Rows.lexemeHugeSpec.post enc Tryd.prog Tryd.f10 false true false false) := by
  refine handed_shaped (X := fun w _ => laidMetH Tryd.prog Rows.lexemeHugeRow.laid w) own started (by kernel_rfl) Tryd.func10
    (ChangeSpec.witness_shaped (enc := enc) (C := Tryd.checked) (os := os) (X := fun w _ => laidMetH Tryd.prog Rows.lexemeHugeRow.laid w) false (World.laidAll Tryd.prog os Rows.lexemeHugeRow.laid) #[] 8 (World.laidAll_os _ _ _)
      (World.shaped_of_ZipB (by kernel_rfl) (by kernel_rfl)) (by kernel_rfl) (by kernel_rfl) (by kernel_rfl)
      (by rw [MakeChecks.laidMetH_plain _ _ _ (by kernel_rfl)]; exact laidMet_laidAll _ (by kernel_rfl) (by kernel_rfl))) ?_
  intro W base args ds gs before hval0 hW hsh
  have hval : ∀ (j : Nat) t v, Tryd.f10.params[j]? = some t → args[j]? = some v → Value.okWide Tryd.prog W .any base t v := hval0
  have hW' := hW
  obtain ⟨p, q, hA0, hV, rfl, _, _⟩ := hW
  have hA : DataW.TrodAll enc Tryd.prog W 0 (fun _ => true) true Tryd.f10.params.toList args.toList ds p := hA0
  rw [Tryd.params10] at hA hval
  obtain ⟨hargs, rfl, rfl⟩ := trodAll_nil hA
  obtain rfl : args = #[] := by cases args; simp_all
  obtain ⟨rfl, rfl⟩ := trodVars_none hV
  refine (lexemeHuge_walk W (max_at hsh)).mono fun e W' ⟨he, hB⟩ => ?_
  subst he
  refine ⟨_, rfl, post_law (by kernel_rfl) ?_ rfl hW' rfl rfl Tryd.underlying4 hB⟩
  rw [Tryd.params10]
  intro t ht
  simp at ht

theorem said : Rows.LexemeHugeSaid :=
  OpenClaim.holds_of_wide 10 Tryd.f10 rfl rfl rfl rfl rfl rfl rfl ⟨rfl, rfl, rfl, rfl, rfl⟩ rfl rfl rfl rfl rfl (by kernel_rfl) Tryd.func10 (by kernel_rfl)
    (of_decide_eq_true (by kernel_rfl)) (by unfold Func.isWrapper; first | (rw [if_pos (by decide +kernel)]; kernel_rfl) | (rw [if_neg (by decide +kernel)]; exact ⟨rfl, rfl⟩))
    (fun os started H enc _ => lifted os started H enc)
theorem plain (f : FuncId) (fn : Func) (hf : Tryd.pinned.checked.prog.funcNamed "analemma/analemmalaw05.LexemeHuge" = some f) (hfn : Tryd.pinned.checked.prog.funcs[f]? = some fn) :
    false = Tryd.pinned.checked.prog.looks [] ∧ ∀ (j : Nat) t, fn.params[j]? = some t → Tryd.pinned.checked.prog.wantsStandIn t = false := by
  obtain rfl : f = 10 := Option.some.inj ((show Tryd.prog.funcNamed "analemma/analemmalaw05.LexemeHuge" = some 10 by kernel_rfl).symm.trans hf) |>.symm
  obtain rfl : fn = Tryd.f10 := (Option.some.inj (Tryd.func10.symm.trans hfn)).symm
  refine ⟨by kernel_rfl, fun j t ht => ?_⟩
  rw [Tryd.params10] at ht
  simp at ht
theorem card : Rows.LexemeHugeCardSaid :=
  Claim7.holds_tied_plain_at .later [] _ _ _ _ said (fun _ h => by cases h) (by kernel_rfl) (fun _ h => by cases h) lexemeHuge_row_tie rfl ⟨rfl, rfl⟩ (by kernel_rfl) rfl plain (by kernel_rfl)
end lexemeHuge
#print axioms lexemeHuge.card
end Go.Proofs.YtjdckmhlgcjdgaaDoor
