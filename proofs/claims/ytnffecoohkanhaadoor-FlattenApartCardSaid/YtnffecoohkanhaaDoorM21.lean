/- The library's Clone at zones and at links; few. What the rows of chapter 15's drafts list: the table of strconv; Itoa. -/
import Derived.Test.YtnffecoohkanhaaDoorYFLnX
import Derived.Test.YtnffecoohkanhaaDoorYLnO
import Derived.Test.YtnffecoohkanhaaDoorShelf
import Derived.Test.YtnffecoohkanhaaDoorRows
import Derived.LaidMore
import Derived.Stop.LaidErr
import Derived.Lib.LaidTab
import Derived.OpenShut
import Derived.Lib.AppendIntMem
namespace Go.Proofs.YtnffecoohkanhaaDoor.Px
open Go.RowKit
open Go.Maps (Keyed)
open Lk

theorem wpList_append_eq {P : Program} {w : World} {ops : Array Oper} {rest : List Oper} {o : Oper} {a : Act} {Q : Exit → Act → World → Prop} (hgd : o.guard = none) (s x : Operand) (t : TypeId)
    (ho : o.op = .call { callee := .builtin .append, args := #[s, x], argTypes := #[t, t] }) (vs vx v' : Value) (w' : World) (hs : a.eval s = vs) (hx : a.eval x = vx) (hr : (Builtin.append_ #[t, t] o.type #[vs, vx]).run P w = .ok v' w')
    (h : wpList P ops Q rest (a.put o.dst v') w') : wpList P ops Q (o :: rest) a w := by
  refine wpList_plain hgd fun K hK => ?_
  unfold Oper.wp execOp
  simp only [ho, resolve, invoke, builtin, Sem.run_bind, Sem.run_pure, Result.andThen_ok, List.map_toArray, List.map_cons, List.map_nil, hs, hx, hr]
  exact hK _ _ h
theorem own_nil {X : World} {B sz n : Nat} {e : TypeId} {xs : List Value} {v : Value} (h : X.ownsRow B e sz v n xs) : ∀ c, v = .slice none n c → c = 0 := by
  intro c hc
  rcases own_cells h with ⟨_, e⟩ | ⟨g', cap', e, _⟩
  · rw [e] at hc
    simp only [Value.slice.injEq] at hc
    exact hc.2.2.symm
  · rw [e] at hc
    simp at hc
theorem one_zones {l : List (Zo)} : ∀ u ∈ l.flatMap zcells, u.oneCell' = true := by
  intro u hu
  obtain ⟨x, _, hx⟩ := List.mem_flatMap.1 hu
  simp only [zcells, List.mem_cons, List.not_mem_nil, or_false] at hx
  rcases hx with rfl | rfl <;> rfl
/-- a list appended to a slice that the call owns -/
theorem append_zones {L : List (Nat × Obj)} {R : List Rw} {v : Value} {n : Nat} {xs : List Value} {W X : World} (h : Kp L (⟨v, 40, 2, n, xs⟩ :: R) W X) (l : List (Zo)) (lv : Value) (hL : SlV X lv 2 l.length (l.flatMap zcells)) (hnil : ∀ c, lv = .slice none l.length c → c = 0) (hmax : n + l.length ≤ 1000000) :
    ∃ v' w1, (Builtin.append_ #[23, 23] 23 #[v, lv]).run Tryd.prog X = .ok v' w1 ∧ Kp L (⟨v', 40, 2, n + l.length, xs ++ l.flatMap zcells⟩ :: R) W w1 := by
  obtain ⟨i0, hi, hz0, hz1, hz2⟩ := info_partsU infoZn
  obtain ⟨h0, a, c, rfl, h1, h2, h3⟩ := hL
  cases a with
  | none =>
    have hl : l.length = 0 := by
      rcases h3 with h3 | ⟨_, _, e, _⟩
      · exact h3
      · cases e
    have hc := hnil c rfl
    have hln : l = [] := List.length_eq_zero_iff.1 hl
    subst hln hc
    refine ⟨v, X, ?_, ?_⟩
    · exact run_append_owned_none (P := Tryd.prog) (w := X) W.heap.size 23 23 40 i0 2 Tryd.underlying23 hi v n xs (h.row 0 rfl)
    · simpa using h
  | some ad =>
    have hnews : ∀ (j : Nat) (u : Value), (l.flatMap zcells)[j]? = some u → X.cell? (ad.add j) = some u := by
      intro j u hu
      rcases h3 with h3 | ⟨b, o, e, _, hc⟩
      · have hln : l = [] := List.length_eq_zero_iff.1 h3
        subst hln
        simp at hu
      · cases e
        rw [WideShapes.add_plain]
        exact hc j u hu
    obtain ⟨v', w1, hr, hown, hgrow, _, hat⟩ := run_append_own_at (P := Tryd.prog) X W.heap.size 23 23 40 i0 (.agg #[.string ⟨#[]⟩, .slice none 0 0]) 2 40 Tryd.underlying23 hi hz0 hz1 hz2 rfl (by decide) v n xs (h.row 0 rfl) ad l.length c (l.flatMap zcells) h0 hnews one_zones (by unfold maxLen; omega) (by omega) h.below.size
    exact ⟨v', w1, hr, h.append hown hgrow hat⟩
set_option maxRecDepth 100000 in
theorem clone_zones (l : List (Zo)) (v : Value) (W : World) (h : SlV W v 2 l.length (l.flatMap zcells)) (hnil : ∀ c, v = .slice none l.length c → c = 0) (hmax : l.length ≤ 1000000) :
    Calls Tryd.prog 11 #[v] W fun e w' => ∃ v', e = .returned v' ∧ Kp [] [⟨v', 40, 2, l.length, l.flatMap zcells⟩] W w' := by
  have h' := h
  obtain ⟨h0, a, c, rfl, h1, h2, h3⟩ := h'
  cases a with
  | none =>
    have hc := hnil c rfl
    have hl : l.length = 0 := by
      rcases h3 with h3 | ⟨_, _, e, _⟩
      · exact h3
      · cases e
    have hln : l = [] := List.length_eq_zero_iff.1 hl
    subst hln hc
    clear h hnil h0 h1 h2 h3
    have q22 : ∀ (w : World) (a : Option Addr) (n c n' c' : Nat), (binOp .eql 23 (.slice a n c) (.slice none n' c')).run Tryd.prog w = .ok (.bool a.isNone) w := fun w a n c n' c' => Lib.run_eql_slice_nil w _ _ a n c n' c' Tryd.underlying23
    go_enter Tryd.func11, Tryd.ntmps11
    go_wp2_with fail
    exact bodyPost_ret (v := .slice none 0 0) (by simp [results, Tryd.results11, go_sem]) rfl ⟨_, rfl, (Kp.start W).fresh 40 2⟩
  | some ad =>
    have K1 := Lib.hid (((Kp.start W).alloc (.cells #[] 40)).own_block 2 0 0 (by omega) (by unfold maxLen; omega) rfl)
    obtain ⟨v', w1, hr, hk⟩ := append_zones K1.out l (.slice (some ad) l.length c) (h.keep K1.out.below) hnil (by omega)
    have HR := Lib.hid hr
    have HK := Lib.hid hk
    clear h hnil h0 h1 h2 h3 hr hk
    have q22 : ∀ (w : World) (a : Option Addr) (n c n' c' : Nat), (binOp .eql 23 (.slice a n c) (.slice none n' c')).run Tryd.prog w = .ok (.bool a.isNone) w := fun w a n c n' c' => Lib.run_eql_slice_nil w _ _ a n c n' c' Tryd.underlying23
    go_enter Tryd.func11, Tryd.ntmps11
    go_wp2_with ((at_builtin; refine wpList_append_eq rfl _ _ 23 rfl _ _ v' w1 rfl rfl HR.out ?_))
    refine bodyPost_ret (v := v') (by simp [results, Tryd.results11, go_sem]) rfl ⟨_, rfl, ?_⟩
    have := HK.out
    rw [Nat.zero_add] at this
    exact this
theorem one_links {l : List (List UInt8 × List UInt8)} : ∀ u ∈ l.flatMap kcells, u.oneCell' = true := by
  intro u hu
  obtain ⟨x, _, hx⟩ := List.mem_flatMap.1 hu
  simp only [kcells, List.mem_cons, List.not_mem_nil, or_false] at hx
  rcases hx with rfl | rfl <;> rfl
/-- a list appended to a slice that the call owns -/
theorem append_links {L : List (Nat × Obj)} {R : List Rw} {v : Value} {n : Nat} {xs : List Value} {W X : World} (h : Kp L (⟨v, 43, 2, n, xs⟩ :: R) W X) (l : List (List UInt8 × List UInt8)) (lv : Value) (hL : SlV X lv 2 l.length (l.flatMap kcells)) (hnil : ∀ c, lv = .slice none l.length c → c = 0) (hmax : n + l.length ≤ 1000000) :
    ∃ v' w1, (Builtin.append_ #[24, 24] 24 #[v, lv]).run Tryd.prog X = .ok v' w1 ∧ Kp L (⟨v', 43, 2, n + l.length, xs ++ l.flatMap kcells⟩ :: R) W w1 := by
  obtain ⟨i0, hi, hz0, hz1, hz2⟩ := info_partsU infoLn
  obtain ⟨h0, a, c, rfl, h1, h2, h3⟩ := hL
  cases a with
  | none =>
    have hl : l.length = 0 := by
      rcases h3 with h3 | ⟨_, _, e, _⟩
      · exact h3
      · cases e
    have hc := hnil c rfl
    have hln : l = [] := List.length_eq_zero_iff.1 hl
    subst hln hc
    refine ⟨v, X, ?_, ?_⟩
    · exact run_append_owned_none (P := Tryd.prog) (w := X) W.heap.size 24 24 43 i0 2 Tryd.underlying24 hi v n xs (h.row 0 rfl)
    · simpa using h
  | some ad =>
    have hnews : ∀ (j : Nat) (u : Value), (l.flatMap kcells)[j]? = some u → X.cell? (ad.add j) = some u := by
      intro j u hu
      rcases h3 with h3 | ⟨b, o, e, _, hc⟩
      · have hln : l = [] := List.length_eq_zero_iff.1 h3
        subst hln
        simp at hu
      · cases e
        rw [WideShapes.add_plain]
        exact hc j u hu
    obtain ⟨v', w1, hr, hown, hgrow, _, hat⟩ := run_append_own_at (P := Tryd.prog) X W.heap.size 24 24 43 i0 (.agg #[.string ⟨#[]⟩, .string ⟨#[]⟩]) 2 32 Tryd.underlying24 hi hz0 hz1 hz2 rfl (by decide) v n xs (h.row 0 rfl) ad l.length c (l.flatMap kcells) h0 hnews one_links (by unfold maxLen; omega) (by omega) h.below.size
    exact ⟨v', w1, hr, h.append hown hgrow hat⟩
set_option maxRecDepth 100000 in
theorem clone_links (l : List (List UInt8 × List UInt8)) (v : Value) (W : World) (h : SlV W v 2 l.length (l.flatMap kcells)) (hnil : ∀ c, v = .slice none l.length c → c = 0) (hmax : l.length ≤ 1000000) :
    Calls Tryd.prog 12 #[v] W fun e w' => ∃ v', e = .returned v' ∧ Kp [] [⟨v', 43, 2, l.length, l.flatMap kcells⟩] W w' := by
  have h' := h
  obtain ⟨h0, a, c, rfl, h1, h2, h3⟩ := h'
  cases a with
  | none =>
    have hc := hnil c rfl
    have hl : l.length = 0 := by
      rcases h3 with h3 | ⟨_, _, e, _⟩
      · exact h3
      · cases e
    have hln : l = [] := List.length_eq_zero_iff.1 hl
    subst hln hc
    clear h hnil h0 h1 h2 h3
    have q22 : ∀ (w : World) (a : Option Addr) (n c n' c' : Nat), (binOp .eql 24 (.slice a n c) (.slice none n' c')).run Tryd.prog w = .ok (.bool a.isNone) w := fun w a n c n' c' => Lib.run_eql_slice_nil w _ _ a n c n' c' Tryd.underlying24
    go_enter Tryd.func12, Tryd.ntmps12
    go_wp2_with fail
    exact bodyPost_ret (v := .slice none 0 0) (by simp [results, Tryd.results12, go_sem]) rfl ⟨_, rfl, (Kp.start W).fresh 43 2⟩
  | some ad =>
    have K1 := Lib.hid (((Kp.start W).alloc (.cells #[] 43)).own_block 2 0 0 (by omega) (by unfold maxLen; omega) rfl)
    obtain ⟨v', w1, hr, hk⟩ := append_links K1.out l (.slice (some ad) l.length c) (h.keep K1.out.below) hnil (by omega)
    have HR := Lib.hid hr
    have HK := Lib.hid hk
    clear h hnil h0 h1 h2 h3 hr hk
    have q22 : ∀ (w : World) (a : Option Addr) (n c n' c' : Nat), (binOp .eql 24 (.slice a n c) (.slice none n' c')).run Tryd.prog w = .ok (.bool a.isNone) w := fun w a n c n' c' => Lib.run_eql_slice_nil w _ _ a n c n' c' Tryd.underlying24
    go_enter Tryd.func12, Tryd.ntmps12
    go_wp2_with ((at_builtin; refine wpList_append_eq rfl _ _ 24 rfl _ _ v' w1 rfl rfl HR.out ?_))
    refine bodyPost_ret (v := v') (by simp [results, Tryd.results12, go_sem]) rfl ⟨_, rfl, ?_⟩
    have := HK.out
    rw [Nat.zero_add] at this
    exact this
end Go.Proofs.YtnffecoohkanhaaDoor.Px
namespace Go.Proofs.YtnffecoohkanhaaDoor.Px
open Go.RowKit
open Go.Joins Go.ChangeShapes Go.WideShapes Go.Deep

theorem tab_lt {w : World} {k : IntKind} {zs : List Int} (h : Lib.TabIs Tryd.prog w "internal/strconv.uint64pow10" k zs) : 1 < w.heap.size := by
  unfold Lib.TabIs World.var? at h
  have hg : Tryd.prog.globalNamed "internal/strconv.uint64pow10" = some 1 := by kernel_rfl
  rw [hg] at h
  simp only [Option.bind_some] at h
  apply Classical.byContradiction
  intro hn
  rw [Array.getElem?_eq_none (by omega)] at h
  cases h
theorem tab_keep {w w' : World} {k : IntKind} {zs : List Int} (h : Lib.TabIs Tryd.prog w "internal/strconv.uint64pow10" k zs) (hB : Below w.heap.size w w') : Lib.TabIs Tryd.prog w' "internal/strconv.uint64pow10" k zs := by
  have hlt := tab_lt h
  unfold Lib.TabIs World.var? at *
  have hg : Tryd.prog.globalNamed "internal/strconv.uint64pow10" = some 1 := by kernel_rfl
  rw [hg] at h ⊢
  simp only [Option.bind_some] at h ⊢
  rw [hB.block 1 hlt]
  exact h
/-- what the variables hold that the functions read -/
structure EnvAt (w : World) : Prop where
  pow : Lib.TabIs Tryd.prog w "internal/strconv.uint64pow10" .u64 Lib.pow10Tab
theorem EnvAt.keep {w w' : World} (h : EnvAt w) (hB : Below w.heap.size w w') : EnvAt w' := ⟨tab_keep h.pow hB⟩
def lay5 : List (String × DataW Unit) := [("math/bits.deBruijn32tab", Rows.laid_math_bits_deBruijn32tab), ("math/bits.deBruijn64tab", Rows.laid_math_bits_deBruijn64tab), ("internal/strconv.uint64pow10", Rows.laid_internal_strconv_uint64pow10), ("unicode/utf8.acceptRanges", Rows.laid_unicode_utf8_acceptRanges), ("unicode/utf8.first", Rows.laid_unicode_utf8_first)]
theorem pow_of {W : World} (h : laidMetH Tryd.prog lay5 W) : Lib.TabIs Tryd.prog W "internal/strconv.uint64pow10" .u64 Lib.pow10Tab := by
  unfold laidMetH at h
  rw [show (lay5.filter fun x => x.2.handleName?.isSome) = [] from by kernel_rfl] at h
  have h1 := h.tail.tail
  exact Lib.tabIs_of_head (t := 145) (e := 135) (n := 20) (show Tryd.prog.globalNamed "internal/strconv.uint64pow10" = some 1 by kernel_rfl) (by kernel_rfl) (by kernel_rfl) (by kernel_rfl) (by kernel_rfl) (by kernel_rfl) h1
theorem itoa_any (x : Int) (h0 : -9223372036854775808 ≤ x) (h1 : x ≤ 9223372036854775807) (w : World) (hE : EnvAt w) :
    Calls Tryd.prog 44 #[.int .i64 x] w fun e w' => e = .returned (.string (bs (Lib.itoa x))) ∧ Below w.heap.size w w' := by
  refine (Tryd.strconv_Itoa x h0 h1 w hE.pow).mono ?_
  rintro e w' ⟨rfl, k, os, rfl⟩
  exact ⟨rfl, Lib.below_grow _ _ (Nat.le_refl _) _ _⟩
end Go.Proofs.YtnffecoohkanhaaDoor.Px
