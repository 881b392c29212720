/- The law LexemeText returns true for every string, and its tied card holds; no condition beyond the row itself. -/
import Derived.Test.YtjdckmhlgcjdgaaDoorLxC
import Derived.Test.YtjdckmhlgcjdgaaDoorLaw
namespace Go.Proofs.YtjdckmhlgcjdgaaDoor
open Go.ChangeShapes Go.WideShapes Go.ChangeAt Go.RowKit
open Go.ChangeMaps (open_string)
open Lx
open Lex (strV bytesOf fieldsL fieldsE)

theorem max_at {W : World} (h : W.ShapedOpen Tryd.prog) : MaxAt W := by
  obtain ⟨m, hm⟩ := maxLen_cell h
  exact ⟨block_lt_of_cell hm, m, hm⟩
theorem join_split (l : List UInt8) : Lib.join (splitB 10 l) [10] = l := by
  induction l with
  | nil => rfl
  | cons c r ih =>
    simp only [splitB]
    cases hs : splitB 10 r with
    | nil => exact absurd hs (splitB_ne 10 r)
    | cons p q =>
      rw [hs, Lib.join_cons] at ih
      by_cases h : (c == 10) = true
      · have hc : c = 10 := by simpa using h
        rw [if_pos h, Lib.join_cons, ← ih, hc]
        simp [Lib.joinTail]
      · rw [if_neg h, Lib.join_cons, ← ih]
        rfl
theorem split_no (l : List UInt8) : ∀ p ∈ splitB 10 l, p.any (· == 10) = false := by
  induction l with
  | nil => intro p hp; simp [splitB] at hp; subst hp; rfl
  | cons c r ih =>
    intro p hp
    simp only [splitB] at hp
    by_cases h : (c == 10) = true
    · rw [if_pos h] at hp
      rcases List.mem_cons.1 hp with rfl | h1
      · rfl
      · exact ih p h1
    · rw [if_neg h] at hp
      cases hs : splitB 10 r with
      | nil => exact absurd hs (splitB_ne 10 r)
      | cons a b =>
        rw [hs] at hp ih
        simp only at hp
        rcases List.mem_cons.1 hp with rfl | h1
        · rw [List.any_cons, ih a (by simp)]; simpa using h
        · exact ih p (by simp [h1])
theorem trim_app (l : List UInt8) : trimNL (l ++ [10]) = l := by
  induction l with
  | nil => rfl
  | cons c r ih =>
    cases r with
    | nil => rfl
    | cons d t =>
      simp only [List.cons_append, trimNL] at ih ⊢
      rw [ih]
/-- the lines of the whole text: those of the text without its end, and perhaps an empty one -/
theorem split_whole (l : List UInt8) : splitB 10 l = rawL l ∨ splitB 10 l = rawL l ++ [[]] := by
  have h : trimNL l = l ∨ l = trimNL l ++ [10] := by
    induction l with
    | nil => exact .inl rfl
    | cons c r ih =>
      cases r with
      | nil =>
        simp only [trimNL]
        by_cases h : c = 10
        · rw [if_pos h]; exact .inr (by rw [h]; rfl)
        · rw [if_neg h]; exact .inl rfl
      | cons d t =>
        simp only [trimNL]
        rcases ih with h | h
        · exact .inl (by rw [h])
        · exact .inr (by rw [List.cons_append, ← h])
  unfold rawL
  rcases h with h | h
  · exact .inl (by rw [h])
  · right
    have : splitB 10 l = splitB 10 (trimNL l ++ 10 :: []) := by rw [← h]
    rw [this, splitB_join]; rfl
theorem idx_whole (l : List UInt8) : idx tooLong (splitB 10 l) = idx tooLong (rawL l) := by
  rcases split_whole l with h | h
  · rw [h]
  · rw [h]
    unfold idx
    rw [List.any_append, show ([[]] : List (List UInt8)).any tooLong = false from rfl, Bool.or_false]
    cases ha : (rawL l).any tooLong
    · rfl
    · rw [if_pos rfl, if_pos rfl, List.findIdx_append, if_pos]
      obtain ⟨p, hp, hq⟩ := List.any_eq_true.1 ha
      exact List.findIdx_lt_length_of_exists ⟨p, hp, hq⟩
theorem long26 (p : List UInt8) (hp : p.length ≤ 9223372036854775807) (w : World) :
    Calls Tryd.prog 26 #[.string (bytesOf p)] w fun e w' => e = .returned (.bool (tooLong p)) ∧ w = w' := by
  have hsz : (bytesOf p).size = p.length := rfl
  have HS := Lib.hid hsz
  have hb : (bytesOf p).size ≤ 9223372036854775807 := by omega
  generalize bytesOf p = s at *
  clear hsz
  go_enter Tryd.func26, Tryd.ntmps26
  go_wp2
  go_ret
  refine ⟨Lex.ret_bool ?_, rfl⟩
  unfold tooLong
  rw [← HS.out, decide_eq_decide]
  omega
theorem lines_ok {l : List UInt8} (h : ¬ 8388608 < l.length) (ha : (rawL l).any tooLong = false) : linesL l = rawL l ∧ linesN l = 0 ∧ linesE l = 0 := by
  have hn : ¬ (8388608 < l.length ∨ (rawL l).any tooLong = true) := by rw [ha]; simpa using h
  unfold linesL linesN linesE
  rw [if_neg hn, if_neg h, if_neg (by rw [ha]; simp), if_neg hn]
  exact ⟨rfl, rfl, rfl⟩
theorem lines_long {l : List UInt8} (h : ¬ 8388608 < l.length) (ha : (rawL l).any tooLong = true) : linesL l = [] ∧ linesN l = idx tooLong (rawL l) + 1 ∧ linesE l = 6 := by
  unfold linesL linesN linesE idx
  refine ⟨by rw [if_pos (.inr ha)], ?_, by rw [if_pos (.inr ha)]⟩
  rw [if_neg h, if_pos ha, if_pos ha]

set_option maxHeartbeats 4000000 in
set_option maxRecDepth 100000 in
theorem lexemeText_walk (s : ByteArray) (hs : s.size ≤ maxLen) (W : World) (hm : MaxAt W) :
    Calls Tryd.prog 8 #[.string s] W fun e w' => e = .returned (.bool true) ∧ Below W.heap.size W w' := by
  have HM := Lib.hid hm
  unfold maxLen at hs
  by_cases h2k : 2000 < s.size
  · have h2i : (2000 : Int) < (s.size : Int) := by omega
    clear hm
    go_enter Tryd.func8, Tryd.ntmps8
    go_wp2_with fail
    refine (works_any _ HM.out).mono ?_
    rintro e V ⟨rfl, hB⟩
    go_wp2
    go_ret
    exact ⟨rfl, hB⟩
  have h2i : (s.size : Int) ≤ 2000 := by omega
  have hnb : ¬ 8388608 < s.data.toList.length := by rw [Lex.len_eq]; omega
  obtain ⟨L, hL⟩ : ∃ L, rawL s.data.toList = L := ⟨_, rfl⟩
  obtain ⟨j, hj⟩ : ∃ j, idx tooLong L = j := ⟨_, rfl⟩
  have hjw := idx_whole s.data.toList
  rw [hL, hj] at hjw
  have C25 := Lib.hid (fun (V : World) (h : MaxAt V) => split_is 10 s (by omega) V h.2)
  have C24 := Lib.hid (fun (v : Value) (V : World) (h : StrsV V v (splitB 10 s.data.toList)) => index_any 26 tooLong s.size _ v V h (by
    intro p hp
    rcases split_whole s.data.toList with e | e
    · rw [e] at hp; have := rawL_le _ p hp; rwa [Lex.len_eq] at this
    · rw [e] at hp
      rcases List.mem_append.1 hp with hp | hp
      · have := rawL_le _ p hp; rwa [Lex.len_eq] at this
      · simp at hp; subst hp; exact Nat.zero_le _) (enters_of Tryd.func26 (by kernel_rfl) rfl) (fun p V' hp => long26 p (by omega) V'))
  rw [hjw] at C24
  have hjb : -1 ≤ j ∧ j ≤ 3000 := by
    have h1 := rawL_length s.data.toList
    rw [hL, Lex.len_eq] at h1
    have h3 : L.findIdx tooLong ≤ L.length := List.findIdx_le_length
    rw [← hj]
    unfold idx
    split <;> omega
  obtain ⟨hj1, hj2⟩ := hjb
  by_cases ha : L.any tooLong = true
  · obtain ⟨e1, e2, e3⟩ := lines_long hnb (by rw [hL]; exact ha)
    rw [hL, hj] at e2
    have hj0 : 0 ≤ j := by rw [← hj]; unfold idx; rw [if_pos ha]; omega
    have C12 := Lib.hid (lines_any s (by unfold maxLen; omega) W hm.2)
    unfold LinesPost at C12
    rw [e1, e2, e3] at C12
    have hj0b : decide (0 ≤ j) = true := by simpa using hj0
    clear hm hL hj hjw ha e1 e2 e3 hnb
    go_enter Tryd.func8, Tryd.ntmps8
    go_wp2_with fail
    refine C12.out.mono ?_
    rintro e V1 ⟨v1, rfl, a1, k1⟩
    have B1 := Lib.hid k1
    obtain ⟨ad, cp, rfl, _, _, _⟩ := a1
    clear k1
    go_wp2_with fail
    refine (C25.out _ (HM.out.keep B1.out)).mono ?_
    rintro e V2 ⟨v2, rfl, a2, k2⟩
    have A2 := Lib.hid a2
    have B2 := Lib.hid (B1.out.trans (k2.mono B1.out.size))
    clear a2 k2
    go_wp2_with fail
    refine (C24.out _ _ A2.out).mono ?_
    rintro e V3 ⟨rfl, rfl⟩
    go_wp2_with fail
    refine (works_any _ (HM.out.keep B2.out)).mono ?_
    rintro e V4 ⟨rfl, k4⟩
    go_wp2
    go_ret
    exact ⟨rfl, B2.out.trans (k4.mono B2.out.size)⟩
  have ha' : L.any tooLong = false := by simpa using ha
  obtain ⟨e1, e2, e3⟩ := lines_ok hnb (by rw [hL]; exact ha')
  rw [hL] at e1
  have hj0 : j = -1 := by rw [← hj]; unfold idx; rw [if_neg ha]
  have C12 := Lib.hid (lines_any s (by unfold maxLen; omega) W hm.2)
  unfold LinesPost at C12
  rw [e1, e2, e3] at C12
  -- the text without its end, and the text that the lines make
  obtain ⟨t, ht⟩ : ∃ t : ByteArray, bytesOf (trimNL s.data.toList) = t := ⟨_, rfl⟩
  have htl : t.data.toList = trimNL s.data.toList := by rw [← ht]; rfl
  have hjoin : Lib.join L [10] = trimNL s.data.toList := by rw [← hL]; exact join_split _
  have hts : t.size ≤ 2000 := by
    have h0 : ∀ l : List UInt8, (trimNL l).length ≤ l.length := by
      intro l
      induction l with
      | nil => simp [trimNL]
      | cons c r ih =>
        cases r with
        | nil => simp only [trimNL]; split <;> simp
        | cons d t => simp only [trimNL, List.length_cons] at *; omega
    have := h0 s.data.toList
    rw [← Lex.len_eq, htl]
    rw [Lex.len_eq] at this
    omega
  have hLn : L.length ≤ 2001 := by
    have h1 := rawL_length s.data.toList
    rw [hL, Lex.len_eq] at h1
    omega
  have C27 := Lib.hid (fun (v : Value) (V : World) (h : StrsV V v L) => sjoin_c L ⟨#[10]⟩ t v V h (by omega) (by show bytesOf (Lib.join L [10]) = t; rw [hjoin, ht]) (by omega))
  have C28 := Lib.hid (fun V : World => Tryd.strings_TrimSuffix s ⟨#[10]⟩ V (by omega))
  rw [show ((⟨#[10]⟩ : ByteArray).data.toList) = [10] from rfl, trim_is] at C28
  rw [show (⟨(trimNL s.data.toList).toArray⟩ : ByteArray) = t from ht] at C28
  have hagain : rawL (t ++ ⟨#[10]⟩).data.toList = L := by
    rw [app_list, htl]
    show splitB 10 (trimNL (trimNL s.data.toList ++ [10])) = L
    rw [trim_app]; exact hL
  obtain ⟨f1, f2, f3⟩ := lines_ok (l := (t ++ ⟨#[10]⟩).data.toList) (by rw [Lex.len_eq, ByteArray.size_append]; show ¬ 8388608 < t.size + 1; omega) (by rw [hagain]; exact ha')
  have C12b := Lib.hid (fun (V : World) (h : MaxAt V) => lines_any (t ++ ⟨#[10]⟩) (by unfold maxLen; rw [ByteArray.size_append]; show t.size + 1 ≤ _; omega) V h.2)
  unfold LinesPost at C12b
  rw [f1, f2, f3, hagain] at C12b
  have HNO := Lib.hid (show ∀ p ∈ L, p.any (· == 10) = false ∧ p.length ≤ 300 by
    intro p hp
    refine ⟨split_no _ p (by have : p ∈ rawL s.data.toList := by rw [hL]; exact hp
                             exact this), ?_⟩
    rw [List.any_eq_false] at ha'
    have := ha' p hp
    unfold tooLong at this
    simpa using this)
  have hLne : 0 < L.length := by
    rw [← hL]; exact List.length_pos_iff.2 (rawL_ne _)
  have hj0b : decide (0 ≤ j) = false := by rw [hj0]; rfl
  have hL0 : ((L.length : Int) == 0) = false := by rw [beq_eq_false_iff_ne]; omega
  clear hm hL hj hjw ha ha' e1 e2 e3 hnb ht htl hjoin hagain f1 f2 f3 hj0
  go_enter Tryd.func8, Tryd.ntmps8
  go_wp2_with fail
  refine C12.out.mono ?_
  rintro e V1 ⟨v1, rfl, a1, k1⟩
  have A1 := Lib.hid a1
  have B1 := Lib.hid k1
  obtain ⟨ad, cp, rfl, q1, q2, q3⟩ := a1
  have HCELL := Lib.hid (show ∀ k, k < L.length → ∃ b o x, ad = some ⟨b, o, none⟩ ∧ V1.cell? ⟨b, o + k, none⟩ = some (.string x) ∧ x.data.toList = L.getD k [] by
    intro k hk
    rcases q3 with h | ⟨b, o, e, h⟩
    · rw [h] at hk; simp at hk
    · exact ⟨b, o, bytesOf (L.getD k []), e, h k hk, rfl⟩)
  unfold maxLen at q2
  clear k1 q3
  go_wp2_with fail
  refine (C25.out _ (HM.out.keep B1.out)).mono ?_
  rintro e V2 ⟨v2, rfl, a2, k2⟩
  have A2 := Lib.hid a2
  have A1b := Lib.hid (A1.out.keep k2)
  have K2 := Lib.hid k2
  have B2 := Lib.hid (B1.out.trans (k2.mono B1.out.size))
  clear a2 k2
  go_wp2_with fail
  refine (C24.out _ _ A2.out).mono ?_
  rintro e V3 ⟨rfl, rfl⟩
  go_wp2_with fail
  refine (C27.out _ _ A1b.out).mono ?_
  rintro e V4 ⟨rfl, k4⟩
  have A1c := Lib.hid (A1b.out.keep k4)
  have K4 := Lib.hid (K2.out.trans (k4.mono K2.out.size))
  have B4 := Lib.hid (B2.out.trans (k4.mono B2.out.size))
  clear k4
  go_wp2_with fail
  refine (C28.out _).mono ?_
  rintro e V5 ⟨rfl, rfl⟩
  go_wp2
  go_loop [62] (fun i => ∃ k : Nat, k ≤ L.length ∧ i = .int .i64 k) (fun i => L.length - (intOf i).toNat)
  case atStart => exact ⟨0, Nat.zero_le _, rfl⟩
  case round =>
    obtain ⟨k, hk, rfl⟩ := hrel
    by_cases hlt : k < L.length
    · obtain ⟨b, o, x, rfl, hcell, hx⟩ := HCELL.out k hlt
      obtain ⟨h10, h300⟩ := HNO.out (L.getD k []) (by rw [getD_lt hlt]; exact List.getElem_mem hlt)
      have hcw := (K4.out.cell (p := ⟨b, o + k, none⟩) (block_lt_of_cell hcell)).trans hcell
      have CC := Lib.hid (fun V : World => contains_c false x 10 (by rw [hx]; exact h10) V)
      have hxs : (x.size : Int) ≤ 300 := by
        have : x.size ≤ 300 := by rw [← Lex.len_eq, hx]; exact h300
        omega
      clear hcell hx h10 h300
      go_wp2_with fail
      refine (CC.out _).mono ?_
      rintro e V6 ⟨rfl, rfl⟩
      go_wp2
      go_round
      case rel => exact ⟨k + 1, by omega, by go_num⟩
      case measure => simp [intOf]; omega
    · go_wp2_with fail
      refine (C27.out _ _ A1c.out).mono ?_
      rintro e V6 ⟨rfl, k6⟩
      have A1d := Lib.hid (A1c.out.keep k6)
      have B6 := Lib.hid (B4.out.trans (k6.mono B4.out.size))
      clear k6
      go_wp2_with fail
      refine (C12b.out _ (HM.out.keep B6.out)).mono ?_
      rintro e V7 ⟨v7, rfl, a7, k7⟩
      have A7 := Lib.hid a7
      have A1e := Lib.hid (A1d.out.keep k7)
      have B7 := Lib.hid (B6.out.trans (k7.mono B6.out.size))
      clear a7 k7
      go_wp2_with fail
      refine (equal_is true A7.out A1e.out (by simp)).mono ?_
      rintro e V8 ⟨rfl, nq, rfl⟩
      have B8 := Lib.hid (below_drewN B7.out nq)
      go_wp2_with fail
      refine (works_any _ (HM.out.keep B8.out)).mono ?_
      rintro e V9 ⟨rfl, k9⟩
      go_wp2
      go_ret
      exact ⟨rfl, B8.out.trans (k9.mono B8.out.size)⟩

namespace lexemeText
theorem own : ownKnob Tryd.prog.godebug = none := by kernel_rfl
set_option maxRecDepth 100000 in
theorem lifted (os : Os) (started : os.Started) (H : Type) (enc : TypeId × Value → H) :
    ReturnsInHanded {} Tryd.checked os 8 .any (fun w args => (Rows.lexemeTextSpec.pre enc Tryd.prog Tryd.f8 Rows.lexemeTextRow.domain false w args ∧ laidMetH Tryd.prog Rows.lexemeTextRow.laid w) ∧ sizedMet enc Tryd.prog Tryd.f8 (OpenSpec.ofChange Rows.lexemeTextSpec) false w args)
      (Rows.lexemeTextSpec.post enc Tryd.prog Tryd.f8 false true false false) := by
  refine handed_shaped (X := fun w _ => laidMetH Tryd.prog Rows.lexemeTextRow.laid w) own started (by kernel_rfl) Tryd.func8
    (ChangeSpec.witness_shaped (enc := enc) (C := Tryd.checked) (os := os) (X := fun w _ => laidMetH Tryd.prog Rows.lexemeTextRow.laid w) false (World.laidAll Tryd.prog os Rows.lexemeTextRow.laid) #[.string ByteArray.empty] 8 (World.laidAll_os _ _ _)
      (World.shaped_of_ZipB (by kernel_rfl) (by kernel_rfl)) (by kernel_rfl) (by kernel_rfl) (by kernel_rfl)
      (by rw [MakeChecks.laidMetH_plain _ _ _ (by kernel_rfl)]; exact laidMet_laidAll _ (by kernel_rfl) (by kernel_rfl))) ?_
  intro W base args ds gs before hval0 hW hsh
  have hval : ∀ (j : Nat) t v, Tryd.f8.params[j]? = some t → args[j]? = some v → Value.okWide Tryd.prog W .any base t v := hval0
  have hW' := hW
  obtain ⟨p, q, hA0, hV, rfl, _, _⟩ := hW
  have hA : DataW.TrodAll enc Tryd.prog W 0 (fun _ => true) true Tryd.f8.params.toList args.toList ds p := hA0
  rw [Tryd.params8] at hA hval
  obtain ⟨v0, vs0, d0, ds0, p0, q0, hargs, rfl, rfl, h0, r0⟩ := trodAll_cons hA
  obtain ⟨rfl, rfl, rfl⟩ := trodAll_nil r0
  obtain rfl : args = #[v0] := by cases args; simp_all
  obtain ⟨rfl, rfl⟩ := trodVars_none hV
  obtain ⟨s0, rfl, rfl, rfl, hs0⟩ := open_string Tryd.underlying9 (hval 0 9 v0 rfl rfl) h0
  refine (lexemeText_walk s0 hs0 W (max_at hsh)).mono fun e W' ⟨he, hB⟩ => ?_
  subst he
  refine ⟨_, rfl, post_law (by kernel_rfl) ?_ rfl hW' rfl rfl Tryd.underlying4 hB⟩
  rw [Tryd.params8]
  intro t ht
  have hall : ([9].all fun u => Tryd.prog.readableRec u && decide (u < Tryd.prog.types.size)) = true := by kernel_rfl
  have h1 := List.all_eq_true.1 hall t ht
  have h2 : Tryd.prog.readableRec t = true ∧ t < Tryd.prog.types.size := by simpa using h1
  exact h2

theorem said : Rows.LexemeTextSaid :=
  OpenClaim.holds_of_wide 8 Tryd.f8 rfl rfl rfl rfl rfl rfl rfl ⟨rfl, rfl, rfl, rfl, rfl⟩ rfl rfl rfl rfl rfl (by kernel_rfl) Tryd.func8 (by kernel_rfl)
    (of_decide_eq_true (by kernel_rfl)) (by unfold Func.isWrapper; first | (rw [if_pos (by decide +kernel)]; kernel_rfl) | (rw [if_neg (by decide +kernel)]; exact ⟨rfl, rfl⟩))
    (fun os started H enc _ => lifted os started H enc)
theorem plain (f : FuncId) (fn : Func) (hf : Tryd.pinned.checked.prog.funcNamed "analemma/analemmalaw05.LexemeText" = some f) (hfn : Tryd.pinned.checked.prog.funcs[f]? = some fn) :
    false = Tryd.pinned.checked.prog.looks [] ∧ ∀ (j : Nat) t, fn.params[j]? = some t → Tryd.pinned.checked.prog.wantsStandIn t = false := by
  obtain rfl : f = 8 := Option.some.inj ((show Tryd.prog.funcNamed "analemma/analemmalaw05.LexemeText" = some 8 by kernel_rfl).symm.trans hf) |>.symm
  obtain rfl : fn = Tryd.f8 := (Option.some.inj (Tryd.func8.symm.trans hfn)).symm
  refine ⟨by kernel_rfl, fun j t ht => ?_⟩
  rw [Tryd.params8] at ht
  have hm : t ∈ [9] := by simpa using Array.mem_of_getElem? ht
  have hall : ([9].all fun u => !Tryd.prog.wantsStandIn u) = true := by kernel_rfl
  exact (show Tryd.prog.wantsStandIn t = false by simpa using List.all_eq_true.1 hall t hm)
theorem card : Rows.LexemeTextCardSaid :=
  Claim7.holds_tied_plain_at .later [] _ _ _ _ said (fun _ h => by cases h) (by kernel_rfl) (fun _ h => by cases h) lexemeText_row_tie rfl ⟨rfl, rfl⟩ (by kernel_rfl) rfl plain (by kernel_rfl)
end lexemeText
#print axioms lexemeText.card
end Go.Proofs.YtjdckmhlgcjdgaaDoor
