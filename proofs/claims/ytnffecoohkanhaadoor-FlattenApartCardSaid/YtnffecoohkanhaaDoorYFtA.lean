/- The library's Clone and the builtin append at slices whose elements have several cells, cells alone (no type of a list). -/
import Derived.Test.YtnffecoohkanhaaDoorM21
namespace Go.Proofs.YtnffecoohkanhaaDoor.Px
open Go.RowKit
open Go.Maps (Keyed)

/-- cells appended to a slice that the call owns -/
theorem append_flat {L : List (Nat × Obj)} {R : List Rw} {v : Value} {n : Nat} {xs : List Value} {W X : World} {e t : TypeId} {sz bytes : Nat} {i0 : TypeInfo} {z : Value} (hu : Tryd.prog.underlying t = some (.slice e)) (hi : Tryd.prog.info? e = some i0) (hz0 : i0.zero = some z) (hz1 : i0.size = sz) (hz2 : i0.bytes = bytes) (hzs : z.cells.size = sz) (hsz : 0 < sz) (hb : bytes ≤ 1000)
    (h : Kp L (⟨v, e, sz, n, xs⟩ :: R) W X) (m : Nat) (ys : List Value) (lv : Value) (hL : SlV X lv sz m ys) (h1 : ∀ u ∈ ys, u.oneCell' = true) (hnil : ∀ c, lv = .slice none m c → c = 0) (hmax : n + m ≤ 1000000) :
    ∃ v' w1, (Builtin.append_ #[t, t] t #[v, lv]).run Tryd.prog X = .ok v' w1 ∧ Kp L (⟨v', e, sz, n + m, xs ++ ys⟩ :: R) W w1 := by
  obtain ⟨h0, a, c, rfl, h1', h2, h3⟩ := hL
  cases a with
  | none =>
    have hl : m = 0 := by
      rcases h3 with h3 | ⟨_, _, e, _⟩
      · exact h3
      · cases e
    have hc := hnil c rfl
    subst hl hc
    have hy : ys = [] := List.length_eq_zero_iff.1 (by rw [h0]; omega)
    subst hy
    refine ⟨v, X, ?_, ?_⟩
    · exact run_append_owned_none (P := Tryd.prog) (w := X) W.heap.size t t e i0 sz hu hi v n xs (h.row 0 rfl)
    · simpa using h
  | some ad =>
    have hnews : ∀ (j : Nat) (u : Value), ys[j]? = some u → X.cell? (ad.add j) = some u := by
      intro j u hu
      rcases h3 with h3 | ⟨b, o, e, _, hc⟩
      · have hy : ys = [] := List.length_eq_zero_iff.1 (by rw [h0, h3, Nat.zero_mul])
        subst hy
        simp at hu
      · cases e
        rw [WideShapes.add_plain]
        exact hc j u hu
    obtain ⟨v', w1, hr, hown, hgrow, _, hat⟩ := run_append_own_at (P := Tryd.prog) X W.heap.size t t e i0 z sz bytes hu hi hz0 hz1 hz2 hzs hsz v n xs (h.row 0 rfl) ad m c ys h0 hnews h1 (by unfold maxLen; omega) (by have := Nat.mul_le_mul hmax hb; omega) h.below.size
    exact ⟨v', w1, hr, h.append hown hgrow hat⟩
theorem slv_zero {W : World} {v : Value} {sz n : Nat} {ys : List Value} (h : SlV W v sz n ys) (h0 : n = 0) : ys = [] := List.length_eq_zero_iff.1 (by rw [h.1, h0, Nat.zero_mul])
theorem info_rules : (Tryd.prog.info? 36).map (fun i => (i.zero, i.size, i.bytes)) = some (some (.agg #[.string ⟨#[]⟩, .int .i64 0, .int .i64 0, .int .i64 0, .int .i64 0, .int .i64 0, .int .i64 0, .int .i64 0, .int .i64 0, .int .i64 0, .string ⟨#[]⟩]), 11, 104) := by kernel_rfl
set_option maxRecDepth 100000 in
theorem clone_rules (m : Nat) (ys : List Value) (v : Value) (W : World) (h : SlV W v 11 m ys) (h1 : ∀ u ∈ ys, u.oneCell' = true) (hnil : ∀ c, v = .slice none m c → c = 0) (hmax : m ≤ 1000000) :
    Calls Tryd.prog 10 #[v] W fun e w' => ∃ v', e = .returned v' ∧ Kp [] [⟨v', 36, 11, m, ys⟩] W w' := by
  have h' := h
  obtain ⟨h0, a, c, rfl, h1', h2, h3⟩ := h'
  have q22 : ∀ (w : World) (a : Option Addr) (n c n' c' : Nat), (binOp .eql 22 (.slice a n c) (.slice none n' c')).run Tryd.prog w = .ok (.bool a.isNone) w := fun w a n c n' c' => Lib.run_eql_slice_nil w _ _ a n c n' c' Tryd.underlying22
  cases a with
  | none =>
    have hc := hnil c rfl
    have hl : m = 0 := by
      rcases h3 with h3 | ⟨_, _, e, _⟩
      · exact h3
      · cases e
    subst hl hc
    obtain rfl := slv_zero h rfl
    clear h hnil h0 h1' h2 h3 h1
    go_enter Tryd.func10, Tryd.ntmps10
    go_wp2_with fail
    exact bodyPost_ret (v := .slice none 0 0) (by simp [results, Tryd.results10, go_sem]) rfl ⟨_, rfl, (Kp.start W).fresh 36 11⟩
  | some ad =>
    obtain ⟨i0, hi, hz0, hz1, hz2⟩ := info_partsU info_rules
    have K1 := Lib.hid (((Kp.start W).alloc (.cells #[] 36)).own_block 11 0 0 (by omega) (by unfold maxLen; omega) rfl)
    obtain ⟨v', w1, hr, hk⟩ := append_flat (t := 22) Tryd.underlying22 hi hz0 hz1 hz2 rfl (by decide) (by decide) K1.out m ys (.slice (some ad) m c) (h.keep K1.out.below) h1 hnil (by omega)
    have HR := Lib.hid hr
    have HK := Lib.hid hk
    clear h hnil h0 h1' h2 h3 hr hk h1
    go_enter Tryd.func10, Tryd.ntmps10
    go_wp2_with ((at_builtin; refine wpList_append_eq rfl _ _ 22 rfl _ _ v' w1 rfl rfl HR.out ?_))
    refine bodyPost_ret (v := v') (by simp [results, Tryd.results10, go_sem]) rfl ⟨_, rfl, ?_⟩
    have := HK.out
    rw [Nat.zero_add] at this
    exact this
theorem info_eras : (Tryd.prog.info? 81).map (fun i => (i.zero, i.size, i.bytes)) = some (some (.agg #[.int .i64 0, .int .i64 0, .int .i64 0, .string ⟨#[]⟩, .string ⟨#[]⟩, .bool false, .int .i64 0, .int .i64 0, .int .i64 0, .int .i64 0, .int .i64 0, .int .i64 0, .int .i64 0]), 13, 120) := by kernel_rfl
set_option maxRecDepth 100000 in
theorem clone_eras (m : Nat) (ys : List Value) (v : Value) (W : World) (h : SlV W v 13 m ys) (h1 : ∀ u ∈ ys, u.oneCell' = true) (hnil : ∀ c, v = .slice none m c → c = 0) (hmax : m ≤ 1000000) :
    Calls Tryd.prog 52 #[v] W fun e w' => ∃ v', e = .returned v' ∧ Kp [] [⟨v', 81, 13, m, ys⟩] W w' := by
  have h' := h
  obtain ⟨h0, a, c, rfl, h1', h2, h3⟩ := h'
  have q22 : ∀ (w : World) (a : Option Addr) (n c n' c' : Nat), (binOp .eql 38 (.slice a n c) (.slice none n' c')).run Tryd.prog w = .ok (.bool a.isNone) w := fun w a n c n' c' => Lib.run_eql_slice_nil w _ _ a n c n' c' Tryd.underlying38
  cases a with
  | none =>
    have hc := hnil c rfl
    have hl : m = 0 := by
      rcases h3 with h3 | ⟨_, _, e, _⟩
      · exact h3
      · cases e
    subst hl hc
    obtain rfl := slv_zero h rfl
    clear h hnil h0 h1' h2 h3 h1
    go_enter Tryd.func52, Tryd.ntmps52
    go_wp2_with fail
    exact bodyPost_ret (v := .slice none 0 0) (by simp [results, Tryd.results52, go_sem]) rfl ⟨_, rfl, (Kp.start W).fresh 81 13⟩
  | some ad =>
    obtain ⟨i0, hi, hz0, hz1, hz2⟩ := info_partsU info_eras
    have K1 := Lib.hid (((Kp.start W).alloc (.cells #[] 81)).own_block 13 0 0 (by omega) (by unfold maxLen; omega) rfl)
    obtain ⟨v', w1, hr, hk⟩ := append_flat (t := 38) Tryd.underlying38 hi hz0 hz1 hz2 rfl (by decide) (by decide) K1.out m ys (.slice (some ad) m c) (h.keep K1.out.below) h1 hnil (by omega)
    have HR := Lib.hid hr
    have HK := Lib.hid hk
    clear h hnil h0 h1' h2 h3 hr hk h1
    go_enter Tryd.func52, Tryd.ntmps52
    go_wp2_with ((at_builtin; refine wpList_append_eq rfl _ _ 38 rfl _ _ v' w1 rfl rfl HR.out ?_))
    refine bodyPost_ret (v := v') (by simp [results, Tryd.results52, go_sem]) rfl ⟨_, rfl, ?_⟩
    have := HK.out
    rw [Nat.zero_add] at this
    exact this
theorem info_strs : (Tryd.prog.info? 9).map (fun i => (i.zero, i.size, i.bytes)) = some (some (.string ⟨#[]⟩), 1, 16) := by kernel_rfl
set_option maxRecDepth 100000 in
theorem clone_strs (m : Nat) (ys : List Value) (v : Value) (W : World) (h : SlV W v 1 m ys) (h1 : ∀ u ∈ ys, u.oneCell' = true) (hnil : ∀ c, v = .slice none m c → c = 0) (hmax : m ≤ 1000000) :
    Calls Tryd.prog 13 #[v] W fun e w' => ∃ v', e = .returned v' ∧ Kp [] [⟨v', 9, 1, m, ys⟩] W w' := by
  have h' := h
  obtain ⟨h0, a, c, rfl, h1', h2, h3⟩ := h'
  have q22 : ∀ (w : World) (a : Option Addr) (n c n' c' : Nat), (binOp .eql 25 (.slice a n c) (.slice none n' c')).run Tryd.prog w = .ok (.bool a.isNone) w := fun w a n c n' c' => Lib.run_eql_slice_nil w _ _ a n c n' c' Tryd.underlying25
  cases a with
  | none =>
    have hc := hnil c rfl
    have hl : m = 0 := by
      rcases h3 with h3 | ⟨_, _, e, _⟩
      · exact h3
      · cases e
    subst hl hc
    obtain rfl := slv_zero h rfl
    clear h hnil h0 h1' h2 h3 h1
    go_enter Tryd.func13, Tryd.ntmps13
    go_wp2_with fail
    exact bodyPost_ret (v := .slice none 0 0) (by simp [results, Tryd.results13, go_sem]) rfl ⟨_, rfl, (Kp.start W).fresh 9 1⟩
  | some ad =>
    obtain ⟨i0, hi, hz0, hz1, hz2⟩ := info_partsU info_strs
    have K1 := Lib.hid (((Kp.start W).alloc (.cells #[] 9)).own_block 1 0 0 (by omega) (by unfold maxLen; omega) rfl)
    obtain ⟨v', w1, hr, hk⟩ := append_flat (t := 25) Tryd.underlying25 hi hz0 hz1 hz2 rfl (by decide) (by decide) K1.out m ys (.slice (some ad) m c) (h.keep K1.out.below) h1 hnil (by omega)
    have HR := Lib.hid hr
    have HK := Lib.hid hk
    clear h hnil h0 h1' h2 h3 hr hk h1
    go_enter Tryd.func13, Tryd.ntmps13
    go_wp2_with ((at_builtin; refine wpList_append_eq rfl _ _ 25 rfl _ _ v' w1 rfl rfl HR.out ?_))
    refine bodyPost_ret (v := v') (by simp [results, Tryd.results13, go_sem]) rfl ⟨_, rfl, ?_⟩
    have := HK.out
    rw [Nat.zero_add] at this
    exact this
theorem info_zonesF : (Tryd.prog.info? 40).map (fun i => (i.zero, i.size, i.bytes)) = some (some (.agg #[.string ⟨#[]⟩, .slice none 0 0]), 2, 40) := by kernel_rfl
set_option maxRecDepth 100000 in
theorem clone_zonesF (m : Nat) (ys : List Value) (v : Value) (W : World) (h : SlV W v 2 m ys) (h1 : ∀ u ∈ ys, u.oneCell' = true) (hnil : ∀ c, v = .slice none m c → c = 0) (hmax : m ≤ 1000000) :
    Calls Tryd.prog 11 #[v] W fun e w' => ∃ v', e = .returned v' ∧ Kp [] [⟨v', 40, 2, m, ys⟩] W w' := by
  have h' := h
  obtain ⟨h0, a, c, rfl, h1', h2, h3⟩ := h'
  have q22 : ∀ (w : World) (a : Option Addr) (n c n' c' : Nat), (binOp .eql 23 (.slice a n c) (.slice none n' c')).run Tryd.prog w = .ok (.bool a.isNone) w := fun w a n c n' c' => Lib.run_eql_slice_nil w _ _ a n c n' c' Tryd.underlying23
  cases a with
  | none =>
    have hc := hnil c rfl
    have hl : m = 0 := by
      rcases h3 with h3 | ⟨_, _, e, _⟩
      · exact h3
      · cases e
    subst hl hc
    obtain rfl := slv_zero h rfl
    clear h hnil h0 h1' h2 h3 h1
    go_enter Tryd.func11, Tryd.ntmps11
    go_wp2_with fail
    exact bodyPost_ret (v := .slice none 0 0) (by simp [results, Tryd.results11, go_sem]) rfl ⟨_, rfl, (Kp.start W).fresh 40 2⟩
  | some ad =>
    obtain ⟨i0, hi, hz0, hz1, hz2⟩ := info_partsU info_zonesF
    have K1 := Lib.hid (((Kp.start W).alloc (.cells #[] 40)).own_block 2 0 0 (by omega) (by unfold maxLen; omega) rfl)
    obtain ⟨v', w1, hr, hk⟩ := append_flat (t := 23) Tryd.underlying23 hi hz0 hz1 hz2 rfl (by decide) (by decide) K1.out m ys (.slice (some ad) m c) (h.keep K1.out.below) h1 hnil (by omega)
    have HR := Lib.hid hr
    have HK := Lib.hid hk
    clear h hnil h0 h1' h2 h3 hr hk h1
    go_enter Tryd.func11, Tryd.ntmps11
    go_wp2_with ((at_builtin; refine wpList_append_eq rfl _ _ 23 rfl _ _ v' w1 rfl rfl HR.out ?_))
    refine bodyPost_ret (v := v') (by simp [results, Tryd.results11, go_sem]) rfl ⟨_, rfl, ?_⟩
    have := HK.out
    rw [Nat.zero_add] at this
    exact this
theorem info_linksF : (Tryd.prog.info? 43).map (fun i => (i.zero, i.size, i.bytes)) = some (some (.agg #[.string ⟨#[]⟩, .string ⟨#[]⟩]), 2, 32) := by kernel_rfl
set_option maxRecDepth 100000 in
theorem clone_linksF (m : Nat) (ys : List Value) (v : Value) (W : World) (h : SlV W v 2 m ys) (h1 : ∀ u ∈ ys, u.oneCell' = true) (hnil : ∀ c, v = .slice none m c → c = 0) (hmax : m ≤ 1000000) :
    Calls Tryd.prog 12 #[v] W fun e w' => ∃ v', e = .returned v' ∧ Kp [] [⟨v', 43, 2, m, ys⟩] W w' := by
  have h' := h
  obtain ⟨h0, a, c, rfl, h1', h2, h3⟩ := h'
  have q22 : ∀ (w : World) (a : Option Addr) (n c n' c' : Nat), (binOp .eql 24 (.slice a n c) (.slice none n' c')).run Tryd.prog w = .ok (.bool a.isNone) w := fun w a n c n' c' => Lib.run_eql_slice_nil w _ _ a n c n' c' Tryd.underlying24
  cases a with
  | none =>
    have hc := hnil c rfl
    have hl : m = 0 := by
      rcases h3 with h3 | ⟨_, _, e, _⟩
      · exact h3
      · cases e
    subst hl hc
    obtain rfl := slv_zero h rfl
    clear h hnil h0 h1' h2 h3 h1
    go_enter Tryd.func12, Tryd.ntmps12
    go_wp2_with fail
    exact bodyPost_ret (v := .slice none 0 0) (by simp [results, Tryd.results12, go_sem]) rfl ⟨_, rfl, (Kp.start W).fresh 43 2⟩
  | some ad =>
    obtain ⟨i0, hi, hz0, hz1, hz2⟩ := info_partsU info_linksF
    have K1 := Lib.hid (((Kp.start W).alloc (.cells #[] 43)).own_block 2 0 0 (by omega) (by unfold maxLen; omega) rfl)
    obtain ⟨v', w1, hr, hk⟩ := append_flat (t := 24) Tryd.underlying24 hi hz0 hz1 hz2 rfl (by decide) (by decide) K1.out m ys (.slice (some ad) m c) (h.keep K1.out.below) h1 hnil (by omega)
    have HR := Lib.hid hr
    have HK := Lib.hid hk
    clear h hnil h0 h1' h2 h3 hr hk h1
    go_enter Tryd.func12, Tryd.ntmps12
    go_wp2_with ((at_builtin; refine wpList_append_eq rfl _ _ 24 rfl _ _ v' w1 rfl rfl HR.out ?_))
    refine bodyPost_ret (v := v') (by simp [results, Tryd.results12, go_sem]) rfl ⟨_, rfl, ?_⟩
    have := HK.out
    rw [Nat.zero_add] at this
    exact this
end Go.Proofs.YtnffecoohkanhaaDoor.Px
