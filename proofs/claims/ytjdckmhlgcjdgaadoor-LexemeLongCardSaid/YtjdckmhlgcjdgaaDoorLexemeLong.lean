/- The law LexemeLong returns true for all numbers, and its tied card holds; no condition beyond the row itself. -/
import Derived.Test.YtjdckmhlgcjdgaaDoorLxC
import Derived.Test.YtjdckmhlgcjdgaaDoorLxS
import Derived.Test.YtjdckmhlgcjdgaaDoorLaw
namespace Go.Proofs.YtjdckmhlgcjdgaaDoor
open Go.ChangeShapes Go.WideShapes Go.ChangeAt Go.RowKit
open Go.ChangeMaps (open_string)
open Lx
open Lex (strV bytesOf fieldsL fieldsE)

theorem max_at {W : World} (h : W.ShapedOpen Tryd.prog) : MaxAt W := by
  obtain ⟨m, hm⟩ := maxLen_cell h
  exact ⟨block_lt_of_cell hm, m, hm⟩
theorem rep_is (s o : ByteArray) (k : Nat) (z : Int) (hz : z = k) (hs : s.size ≤ 1000) (hc : k ≤ 100000000) (ho : bytesOf (Lib.repeatL s.data.toList k) = o) (w : World) :
    Calls Tryd.prog 29 #[.string s, .int .i64 z] w fun e w' => e = .returned (.string o) ∧ Below w.heap.size w w' := by
  subst hz
  have hm : s.size * k ≤ 1000 * 100000000 := Nat.mul_le_mul hs hc
  refine (Tryd.strings_Repeat s k w (by omega) (by omega)).mono ?_
  rintro e V ⟨rfl, hB⟩
  exact ⟨by rw [← ho]; rfl, hB⟩
def xs (k : Nat) : List UInt8 := List.replicate k 120
theorem xs_rep (k : Nat) : Lib.repeatL [120] k = xs k := by
  induction k with
  | zero => rfl
  | succ k ih => rw [Lib.repeatL, ih]; rfl
theorem xs_mem {k : Nat} {c : UInt8} (h : c ∈ xs k) : c = 120 := by
  unfold xs at h
  exact (List.mem_replicate.1 h).2
theorem xs_good (k : Nat) : goodF (xs k) = true := by
  unfold goodF
  rw [List.all_eq_true]
  intro c hc
  rw [xs_mem hc]; decide
theorem xs_bare (k : Nat) (h : 0 < k) : bareB (xs k) = true := by
  unfold bareB
  have h1 : ((xs k).all fun c => decide (c.toNat ≠ 32) && decide (c.toNat ≠ 35)) = true := by
    rw [List.all_eq_true]
    intro c hc
    rw [xs_mem hc]; decide
  rw [h1]
  cases k with
  | zero => omega
  | succ k => rfl
theorem xs_quote (k : Nat) (h : 0 < k) : joinL [xs k] = xs k := by
  simp [joinL, quoteF, xs_bare k h]
/-- a line among others -/
def longT (k n : Nat) : List UInt8 := Lib.repeatL [97, 10] k ++ xs n ++ [10, 98]
def longL (k n : Nat) : List (List UInt8) := List.replicate k [97] ++ [xs n, [98]]
theorem trim_b (l : List UInt8) : trimNL (l ++ [98]) = l ++ [98] := by
  induction l with
  | nil => rfl
  | cons c r ih =>
    cases r with
    | nil => rfl
    | cons d t =>
      simp only [List.cons_append, trimNL] at ih ⊢
      rw [ih]
theorem xs_no10 (n : Nat) : splitB 10 (xs n) = [xs n] := splitB_no 10 _ (fun b hb => by rw [xs_mem hb]; decide)
theorem longT_raw (k n : Nat) : rawL (longT k n) = longL k n := by
  have h1 : ∀ k, splitB 10 (longT k n) = longL k n := by
    intro k
    induction k with
    | zero =>
      show splitB 10 (xs n ++ 10 :: [98]) = [xs n, [98]]
      rw [splitB_join, xs_no10]; rfl
    | succ k ih =>
      have e : longT (k + 1) n = [97] ++ 10 :: longT k n := by simp [longT, Lib.repeatL]
      rw [e, splitB_join, ih]; rfl
  have e : longT k n = (Lib.repeatL [97, 10] k ++ xs n ++ [10]) ++ [98] := by simp [longT]
  unfold rawL
  rw [e, trim_b, ← e, h1]
theorem longL_len (k n : Nat) : (longL k n).length = k + 2 := by simp [longL]
theorem longL_any (k n : Nat) : (longL k n).any tooLong = decide (300 < n) := by
  have h1 : (List.replicate k ([97] : List UInt8)).any tooLong = false := by
    rw [List.any_eq_false]
    intro p hp
    rw [(List.mem_replicate.1 hp).2]; decide
  unfold longL
  rw [List.any_append, h1]
  simp [tooLong, xs]
theorem longL_idx (k n : Nat) (h : 300 < n) : (longL k n).findIdx tooLong = k := by
  refine (List.findIdx_eq (by rw [longL_len]; omega)).2 ⟨?_, fun j hj => ?_⟩
  · simp [longL, tooLong, xs, h]
  · rw [show (longL k n)[j]'(by rw [longL_len]; omega) = [97] from by simp [longL, hj]]
    decide
theorem longT_len (k n : Nat) (hk : k < 20) (hn : n ≤ 500) : (longT k n).length ≤ 600 := by
  have h1 : ∀ k, (Lib.repeatL [97, 10] k).length = 2 * k := by
    intro k
    induction k with
    | zero => rfl
    | succ k ih => rw [Lib.repeatL, List.length_append, ih]; simp; omega
  unfold longT xs
  rw [List.length_append, List.length_append, h1, List.length_replicate]
  simp
  omega

set_option maxHeartbeats 8000000 in
set_option maxRecDepth 100000 in
theorem lexemeLong_walk (m l : Nat) (hm' : m ≤ 255) (hl' : l ≤ 255) (W : World) (hm : MaxAt W) :
    Calls Tryd.prog 9 #[.int .u8 m, .int .u8 l] W fun e w' => e = .returned (.bool true) ∧ Below W.heap.size W w' := by
  have HM := Lib.hid hm
  obtain ⟨n, hn⟩ : ∃ n, 200 + m = n := ⟨_, rfl⟩
  obtain ⟨k, hk⟩ : ∃ k, l % 20 = k := ⟨_, rfl⟩
  have hk20 : k < 20 := by omega
  have hki : (l : Int) % 20 = (k : Int) := by omega
  have hki20 : (k : Int) < 20 := by omega
  have hmi : (m : Int) ≤ 255 := by omega
  have hli : (l : Int) ≤ 255 := by omega
  obtain ⟨x, hx⟩ : ∃ x, bytesOf (xs n) = x := ⟨_, rfl⟩
  have hxl : x.data.toList = xs n := by rw [← hx]; rfl
  have hxz : x.size = n := by rw [← Lex.len_eq, hxl]; simp [xs]
  obtain ⟨y, hy⟩ : ∃ y, bytesOf (Lib.repeatL [97, 10] k) = y := ⟨_, rfl⟩
  have CR1 := Lib.hid (rep_is ⟨#[120]⟩ x n (200 + (m : Int)) (by omega) (by decide) (by omega) (by rw [← hx]; show bytesOf (Lib.repeatL [120] n) = _; rw [xs_rep]))
  have CR2 := Lib.hid (rep_is ⟨#[97, 10]⟩ y k k rfl (by decide) (by omega) hy)
  have hT : (y ++ x ++ ⟨#[10, 98]⟩).data.toList = longT k n := by rw [app_list, app_list, hxl, ← hy]; rfl
  have hTs : (y ++ x ++ ⟨#[10, 98]⟩).size ≤ 600 := by rw [← Lex.len_eq, hT]; exact longT_len k n hk20 (by omega)
  have hys : y.size + x.size + 2 ≤ 600 := by
    rw [ByteArray.size_append, ByteArray.size_append, show (⟨#[10, 98]⟩ : ByteArray).size = 2 from rfl] at hTs
    exact hTs
  have CL := Lib.hid (fun (V : World) (h : MaxAt V) => lines_any (y ++ x ++ ⟨#[10, 98]⟩) (by unfold maxLen; omega) V h.2)
  unfold LinesPost at CL
  rw [hT] at CL
  have hnb : ¬ 8388608 < (longT k n).length := by rw [← hT, Lex.len_eq]; omega
  have hpos : 0 < n := by omega
  by_cases hbig : 300 < n
  · have hbi : (300 : Int) < 200 + (m : Int) := by omega
    have ha : (rawL (longT k n)).any tooLong = true := by rw [longT_raw, longL_any]; simpa using hbig
    have e1 : linesL (longT k n) = [] ∧ linesN (longT k n) = (k : Int) + 1 ∧ linesE (longT k n) = 6 := by
      unfold linesL linesN linesE
      refine ⟨by rw [if_pos (.inr ha)], ?_, by rw [if_pos (.inr ha)]⟩
      rw [if_neg hnb, if_pos ha, longT_raw, longL_idx k n hbig]
    rw [e1.1, e1.2.1, e1.2.2] at CL
    have CF := Lib.hid (fun V : World => fields_c x [] 6 (by omega) (by unfold Lex.fieldsL; rw [if_pos (by rw [Lex.len_eq]; omega)]) (by unfold Lex.fieldsE; rw [if_pos (by rw [Lex.len_eq]; omega)]) V)
    have hj : joinS [xs n] = [] ∧ joinE [xs n] = 6 := by
      have h1 : ([xs n] : List (List UInt8)).all goodF = true := by simp [xs_good]
      have h2 : 300 < (joinL [xs n]).length := by rw [xs_quote n hpos]; simpa [xs] using hbig
      unfold joinS joinE
      rw [if_pos h1, if_pos h1, if_pos h2, if_pos h2]
      exact ⟨rfl, rfl⟩
    have CJ := Lib.hid (fun (v : Value) (V : World) (hv : StrsV V v [xs n]) => join_c [xs n] ⟨#[]⟩ 6 v V hv (fun p hp => by simp at hp; subst hp; simp [xs]; omega) (by simp [sumL, xs]; omega) (by rw [hj.1]; rfl) hj.2)
    have HX := Lib.hid hxl
    clear hn hk hx hy hxl hT hTs hnb ha e1 hj hm hxz
    go_enter Tryd.func9, Tryd.ntmps9
    go_wp2_with fail
    refine (CR1.out _).mono ?_
    rintro e V1 ⟨rfl, k1⟩
    have B1 := Lib.hid k1
    clear k1
    go_wp2_with fail
    refine (CF.out _).mono ?_
    rintro e V2 ⟨v2, rfl, a2, k2⟩
    have B2 := Lib.hid (B1.out.trans (k2.mono B1.out.size))
    obtain ⟨ad2, cp2, rfl, _, _, _⟩ := a2
    clear k2
    go_wp2_with fail
    refine (CJ.out _ _ (StrsV.of_block (L := [xs n]) (heap_alloc_at rfl) (Nat.le_refl _) (by show 1 ≤ maxLen; unfold maxLen; decide) (by rw [← HX.out]; rfl))).mono ?_
    rintro e V3 ⟨rfl, k3⟩
    have B3 := Lib.hid (B2.out.trans (((Below.refl _ V2).alloc (Nat.le_refl _) _).mono B2.out.size |>.trans (k3.mono (by have := B2.out.size; simp; omega))))
    clear k3
    go_wp2_with fail
    refine (CR2.out _).mono ?_
    rintro e V4 ⟨rfl, k4⟩
    have B4 := Lib.hid (B3.out.trans (k4.mono B3.out.size))
    clear k4
    go_wp2_with fail
    refine (CL.out _ (HM.out.keep B4.out)).mono ?_
    rintro e V5 ⟨v5, rfl, a5, k5⟩
    have B5 := Lib.hid (B4.out.trans (k5.mono B4.out.size))
    obtain ⟨ad5, cp5, rfl, _, _, _⟩ := a5
    clear k5
    go_wp2_with fail
    refine (works_any _ (HM.out.keep B5.out)).mono ?_
    rintro e V6 ⟨rfl, k6⟩
    go_wp2
    go_ret
    exact ⟨rfl, B5.out.trans (k6.mono B5.out.size)⟩
  · have hbi : 200 + (m : Int) ≤ 300 := by omega
    have ha : (rawL (longT k n)).any tooLong = false := by rw [longT_raw, longL_any]; simpa using hbig
    have e1 : linesL (longT k n) = longL k n ∧ linesN (longT k n) = 0 ∧ linesE (longT k n) = 0 := by
      have hn : ¬ (8388608 < (longT k n).length ∨ (rawL (longT k n)).any tooLong = true) := by rw [ha]; simpa using hnb
      unfold linesL linesN linesE
      rw [if_neg hn, if_neg hnb, if_neg (by rw [ha]; simp), if_neg hn, longT_raw]
      exact ⟨rfl, rfl, rfl⟩
    rw [e1.1, e1.2.1, e1.2.2] at CL
    have hll := longL_len k n
    obtain ⟨L, hL⟩ : ∃ L, longL k n = L := ⟨_, rfl⟩
    rw [hL] at CL hll
    have hL2 : ((L.length : Int) != (k : Int) + 2) = false := by rw [bne_eq_false_iff_eq]; omega
    have hgo := go_join [xs n] (fun f hf => by simp at hf; subst hf; exact xs_good n) [] clos_nil
    rw [List.append_nil, xs_quote n hpos] at hgo
    obtain ⟨f1, f2⟩ := fields_of (l := x.data.toList) (by rw [Lex.len_eq]; omega) (by rw [hxl]; exact hgo)
    have CF := Lib.hid (fun V : World => fields_c x [xs n] 0 (by omega) f1 f2 V)
    have hj : joinS [xs n] = xs n ∧ joinE [xs n] = 0 := by
      have h1 : ([xs n] : List (List UInt8)).all goodF = true := by simp [xs_good]
      have h2 : ¬ 300 < (joinL [xs n]).length := by rw [xs_quote n hpos]; simpa [xs] using hbig
      unfold joinS joinE
      rw [if_pos h1, if_pos h1, if_neg h2, if_neg h2, xs_quote n hpos]
      exact ⟨rfl, rfl⟩
    have CJ := Lib.hid (fun (v : Value) (V : World) (hv : StrsV V v [xs n]) => join_c [xs n] x 0 v V hv (fun p hp => by simp at hp; subst hp; simp [xs]; omega) (by simp [sumL, xs]; omega) (by rw [hj.1]; exact hx) hj.2)
    have HX := Lib.hid hxl
    clear hn hk hx hy hxl hT hTs hnb ha e1 hj hm hxz hll hL hgo f1 f2
    go_enter Tryd.func9, Tryd.ntmps9
    go_wp2_with fail
    refine (CR1.out _).mono ?_
    rintro e V1 ⟨rfl, k1⟩
    have B1 := Lib.hid k1
    clear k1
    go_wp2_with fail
    refine (CF.out _).mono ?_
    rintro e V2 ⟨v2, rfl, a2, k2⟩
    have B2 := Lib.hid (B1.out.trans (k2.mono B1.out.size))
    obtain ⟨ad2, cp2, rfl, _, _, _⟩ := a2
    clear k2
    go_wp2_with fail
    refine (CJ.out _ _ (StrsV.of_block (L := [xs n]) (heap_alloc_at rfl) (Nat.le_refl _) (by show 1 ≤ maxLen; unfold maxLen; decide) (by rw [← HX.out]; rfl))).mono ?_
    rintro e V3 ⟨rfl, k3⟩
    have B3 := Lib.hid (B2.out.trans (((Below.refl _ V2).alloc (Nat.le_refl _) _).mono B2.out.size |>.trans (k3.mono (by have := B2.out.size; simp; omega))))
    clear k3
    go_wp2_with fail
    refine (CR2.out _).mono ?_
    rintro e V4 ⟨rfl, k4⟩
    have B4 := Lib.hid (B3.out.trans (k4.mono B3.out.size))
    clear k4
    go_wp2_with fail
    refine (CL.out _ (HM.out.keep B4.out)).mono ?_
    rintro e V5 ⟨v5, rfl, a5, k5⟩
    have B5 := Lib.hid (B4.out.trans (k5.mono B4.out.size))
    obtain ⟨ad5, cp5, rfl, _, _, _⟩ := a5
    clear k5
    go_wp2_with fail
    refine (works_any _ (HM.out.keep B5.out)).mono ?_
    rintro e V6 ⟨rfl, k6⟩
    go_wp2
    go_ret
    exact ⟨rfl, B5.out.trans (k6.mono B5.out.size)⟩
theorem lexemeLong_int (n m : Int) (hn : (Lit.int .u8 n).wf = true) (hm' : (Lit.int .u8 m).wf = true) (W : World) (hm : MaxAt W) :
    Calls Tryd.prog 9 #[.int .u8 n, .int .u8 m] W fun e w' => e = .returned (.bool true) ∧ Below W.heap.size W w' := by
  have h1 := bounds_u8 hn
  have h2 := bounds_u8 hm'
  obtain ⟨n, rfl⟩ := Int.eq_ofNat_of_zero_le (show 0 ≤ n by omega)
  obtain ⟨m, rfl⟩ := Int.eq_ofNat_of_zero_le (show 0 ≤ m by omega)
  exact lexemeLong_walk n m (by omega) (by omega) W hm

namespace lexemeLong
theorem own : ownKnob Tryd.prog.godebug = none := by kernel_rfl
set_option maxRecDepth 100000 in
theorem lifted (os : Os) (started : os.Started) (H : Type) (enc : TypeId × Value → H) :
    ReturnsInHanded {} Tryd.checked os 9 .any (fun w args => (Rows.lexemeLongSpec.pre enc Tryd.prog Tryd.f9 Rows.lexemeLongRow.domain false w args ∧ laidMetH Tryd.prog Rows.lexemeLongRow.laid w) ∧ sizedMet enc Tryd.prog Tryd.f9 (OpenSpec.ofChange Rows.lexemeLongSpec) false w args)
      (Rows.lexemeLongSpec.post enc Tryd.prog Tryd.f9 false true false false) := by
  refine handed_shaped (X := fun w _ => laidMetH Tryd.prog Rows.lexemeLongRow.laid w) own started (by kernel_rfl) Tryd.func9
    (ChangeSpec.witness_shaped (enc := enc) (C := Tryd.checked) (os := os) (X := fun w _ => laidMetH Tryd.prog Rows.lexemeLongRow.laid w) false (World.laidAll Tryd.prog os Rows.lexemeLongRow.laid) #[.int .u8 0, .int .u8 0] 8 (World.laidAll_os _ _ _)
      (World.shaped_of_ZipB (by kernel_rfl) (by kernel_rfl)) (by kernel_rfl) (by kernel_rfl) (by kernel_rfl)
      (by rw [MakeChecks.laidMetH_plain _ _ _ (by kernel_rfl)]; exact laidMet_laidAll _ (by kernel_rfl) (by kernel_rfl))) ?_
  intro W base args ds gs before hval0 hW hsh
  have hval : ∀ (j : Nat) t v, Tryd.f9.params[j]? = some t → args[j]? = some v → Value.okWide Tryd.prog W .any base t v := hval0
  have hW' := hW
  obtain ⟨p, q, hA0, hV, rfl, _, _⟩ := hW
  have hA : DataW.TrodAll enc Tryd.prog W 0 (fun _ => true) true Tryd.f9.params.toList args.toList ds p := hA0
  rw [Tryd.params9] at hA hval
  obtain ⟨v0, vs0, d0, ds0, p0, q0, hargs, rfl, rfl, h0, r0⟩ := trodAll_cons hA
  obtain ⟨v1, vs1, d1, ds1, p1, q1, rfl, rfl, rfl, h1, r1⟩ := trodAll_cons r0
  obtain ⟨rfl, rfl, rfl⟩ := trodAll_nil r1
  obtain rfl : args = #[v0, v1] := by cases args; simp_all
  obtain ⟨rfl, rfl⟩ := trodVars_none hV
  obtain ⟨n0, rfl, rfl, rfl, hn0⟩ := open_int Tryd.underlying5 (hval 0 5 v0 rfl rfl) h0
  obtain ⟨n1, rfl, rfl, rfl, hn1⟩ := open_int Tryd.underlying5 (hval 1 5 v1 rfl rfl) h1
  refine (lexemeLong_int n0 n1 hn0 hn1 W (max_at hsh)).mono fun e W' ⟨he, hB⟩ => ?_
  subst he
  refine ⟨_, rfl, post_law (by kernel_rfl) ?_ rfl hW' rfl rfl Tryd.underlying4 hB⟩
  rw [Tryd.params9]
  intro t ht
  have hall : ([5, 5].all fun u => Tryd.prog.readableRec u && decide (u < Tryd.prog.types.size)) = true := by kernel_rfl
  have h1 := List.all_eq_true.1 hall t ht
  have h2 : Tryd.prog.readableRec t = true ∧ t < Tryd.prog.types.size := by simpa using h1
  exact h2

theorem said : Rows.LexemeLongSaid :=
  OpenClaim.holds_of_wide 9 Tryd.f9 rfl rfl rfl rfl rfl rfl rfl ⟨rfl, rfl, rfl, rfl, rfl⟩ rfl rfl rfl rfl rfl (by kernel_rfl) Tryd.func9 (by kernel_rfl)
    (of_decide_eq_true (by kernel_rfl)) (by unfold Func.isWrapper; first | (rw [if_pos (by decide +kernel)]; kernel_rfl) | (rw [if_neg (by decide +kernel)]; exact ⟨rfl, rfl⟩))
    (fun os started H enc _ => lifted os started H enc)
theorem plain (f : FuncId) (fn : Func) (hf : Tryd.pinned.checked.prog.funcNamed "analemma/analemmalaw05.LexemeLong" = some f) (hfn : Tryd.pinned.checked.prog.funcs[f]? = some fn) :
    false = Tryd.pinned.checked.prog.looks [] ∧ ∀ (j : Nat) t, fn.params[j]? = some t → Tryd.pinned.checked.prog.wantsStandIn t = false := by
  obtain rfl : f = 9 := Option.some.inj ((show Tryd.prog.funcNamed "analemma/analemmalaw05.LexemeLong" = some 9 by kernel_rfl).symm.trans hf) |>.symm
  obtain rfl : fn = Tryd.f9 := (Option.some.inj (Tryd.func9.symm.trans hfn)).symm
  refine ⟨by kernel_rfl, fun j t ht => ?_⟩
  rw [Tryd.params9] at ht
  have hm : t ∈ [5, 5] := by simpa using Array.mem_of_getElem? ht
  have hall : ([5, 5].all fun u => !Tryd.prog.wantsStandIn u) = true := by kernel_rfl
  exact (show Tryd.prog.wantsStandIn t = false by simpa using List.all_eq_true.1 hall t hm)
theorem card : Rows.LexemeLongCardSaid :=
  Claim7.holds_tied_plain_at .later [] _ _ _ _ said (fun _ h => by cases h) (by kernel_rfl) (fun _ h => by cases h) lexemeLong_row_tie rfl ⟨rfl, rfl⟩ (by kernel_rfl) rfl plain (by kernel_rfl)
end lexemeLong
#print axioms lexemeLong.card
end Go.Proofs.YtjdckmhlgcjdgaaDoor
