/- Copies of slices of local times and of transitions (slices.Clone), and the closure of the law LookupRefuses: instants that are refused. -/
import Derived.Test.YtlaplgaccjmbhaaGreatDoorRJ6
import Derived.Test.YtlaplgaccjmbhaaGreatDoorRJ3
import Derived.Lib.SliceRun
namespace Go.Proofs.YtlaplgaccjmbhaaGreatDoor.Px
open Go.RowKit
open Civ Tb
theorem tr_one {l : List Tr} : ∀ u ∈ l.flatMap Tr.cells, u.oneCell' = true := by
  intro u hu
  obtain ⟨x, _, hx⟩ := List.mem_flatMap.1 hu
  simp only [Tr.cells, List.mem_cons, List.not_mem_nil, or_false] at hx
  rcases hx with rfl | rfl <;> rfl
/-- a list of transitions appended to a slice that the call owns -/
theorem append_trs {L : List (Nat × Obj)} {R : List Rw} {v : Value} {n : Nat} {xs : List Value} {W X : World} (h : Kp L (⟨v, 59, 2, n, xs⟩ :: R) W X) (l : List Tr) (lv : Value) (hL : TrV X lv l) (hnil : ∀ c, lv = .slice none l.length c → c = 0) (hmax : n + l.length ≤ 1000000) :
    ∃ v' w1, (Builtin.append_ #[23, 23] 23 #[v, lv]).run Tryz.prog X = .ok v' w1 ∧ Kp L (⟨v', 59, 2, n + l.length, xs ++ l.flatMap Tr.cells⟩ :: R) W w1 := by
  obtain ⟨i0, hi, hz0, hz1, hz2⟩ := info_parts infoTr
  obtain ⟨h0, a, c, rfl, h1, h2, h3⟩ := hL
  cases a with
  | none =>
    have hl : l.length = 0 := by
      rcases h3 with h3 | ⟨_, _, e, _⟩
      · exact h3
      · cases e
    have hc := hnil c rfl
    have hln : l = [] := List.length_eq_zero_iff.1 hl
    subst hln hc
    refine ⟨v, X, ?_, ?_⟩
    · exact run_append_owned_none (P := Tryz.prog) (w := X) W.heap.size 23 23 59 i0 2 Tryz.underlying23 hi v n xs (h.row 0 rfl)
    · simpa using h
  | some ad =>
    have hnews : ∀ (j : Nat) (u : Value), (l.flatMap Tr.cells)[j]? = some u → X.cell? (ad.add j) = some u := by
      intro j u hu
      rcases h3 with h3 | ⟨b, o, e, _, hc⟩
      · have hln : l = [] := List.length_eq_zero_iff.1 h3
        subst hln
        simp at hu
      · cases e
        rw [WideShapes.add_plain]
        exact hc j u hu
    obtain ⟨v', w1, hr, hown, hgrow, _, hat⟩ := run_append_own_at (P := Tryz.prog) X W.heap.size 23 23 59 i0 (.agg #[.int .i64 0, .int .i64 0]) 2 16 Tryz.underlying23 hi hz0 hz1 hz2 rfl (by decide) v n xs (h.row 0 rfl) ad l.length c (l.flatMap Tr.cells) h0 hnews tr_one (by unfold maxLen; omega) (by omega) h.below.size
    exact ⟨v', w1, hr, h.append hown hgrow hat⟩
set_option maxRecDepth 100000 in
theorem clone_lcs (l : List Lc) (v : Value) (W : World) (h : LcV W v l) (hnil : ∀ c, v = .slice none l.length c → c = 0) (hmax : l.length ≤ 1000000) :
    Calls Tryz.prog 26 #[v] W fun e w' => ∃ v', e = .returned v' ∧ Kp [] [⟨v', 28, 3, l.length, l.flatMap Lc.cells⟩] W w' := by
  have h' := h
  obtain ⟨h0, a, c, rfl, h1, h2, h3⟩ := h'
  cases a with
  | none =>
    have hc := hnil c rfl
    have hl : l.length = 0 := by
      rcases h3 with h3 | ⟨_, _, e, _⟩
      · exact h3
      · cases e
    have hln : l = [] := List.length_eq_zero_iff.1 hl
    subst hln hc
    clear h hnil h0 h1 h2 h3
    have q22 : ∀ (w : World) (a : Option Addr) (n c n' c' : Nat), (binOp .eql 22 (.slice a n c) (.slice none n' c')).run Tryz.prog w = .ok (.bool a.isNone) w := fun w a n c n' c' => Lib.run_eql_slice_nil w _ _ a n c n' c' Tryz.underlying22
    go_enter Tryz.func26, Tryz.ntmps26
    go_wp2_with fail
    exact bodyPost_ret (v := .slice none 0 0) (by simp [results, Tryz.results26, go_sem]) rfl ⟨_, rfl, (Kp.start W).fresh 28 3⟩
  | some ad =>
    have K1 := Lib.hid (((Kp.start W).alloc (.cells #[] 28)).own_block 3 0 0 (by omega) (by unfold maxLen; omega) rfl)
    obtain ⟨v', w1, hr, hk⟩ := append_list K1.out l (.slice (some ad) l.length c) (h.keep K1.out.below) hnil (by omega)
    have HR := Lib.hid hr
    have HK := Lib.hid hk
    clear h hnil h0 h1 h2 h3 hr hk
    have q22 : ∀ (w : World) (a : Option Addr) (n c n' c' : Nat), (binOp .eql 22 (.slice a n c) (.slice none n' c')).run Tryz.prog w = .ok (.bool a.isNone) w := fun w a n c n' c' => Lib.run_eql_slice_nil w _ _ a n c n' c' Tryz.underlying22
    go_enter Tryz.func26, Tryz.ntmps26
    go_wp2_with ((at_builtin; refine wpList_append_eq rfl _ _ 22 rfl _ _ v' w1 rfl rfl HR.out ?_))
    refine bodyPost_ret (v := v') (by simp [results, Tryz.results26, go_sem]) rfl ⟨_, rfl, ?_⟩
    have := HK.out
    rw [Nat.zero_add] at this
    exact this
set_option maxRecDepth 100000 in
theorem clone_trs (l : List Tr) (v : Value) (W : World) (h : TrV W v l) (hnil : ∀ c, v = .slice none l.length c → c = 0) (hmax : l.length ≤ 1000000) :
    Calls Tryz.prog 27 #[v] W fun e w' => ∃ v', e = .returned v' ∧ Kp [] [⟨v', 59, 2, l.length, l.flatMap Tr.cells⟩] W w' := by
  have h' := h
  obtain ⟨h0, a, c, rfl, h1, h2, h3⟩ := h'
  cases a with
  | none =>
    have hc := hnil c rfl
    have hl : l.length = 0 := by
      rcases h3 with h3 | ⟨_, _, e, _⟩
      · exact h3
      · cases e
    have hln : l = [] := List.length_eq_zero_iff.1 hl
    subst hln hc
    clear h hnil h0 h1 h2 h3
    have q22 : ∀ (w : World) (a : Option Addr) (n c n' c' : Nat), (binOp .eql 23 (.slice a n c) (.slice none n' c')).run Tryz.prog w = .ok (.bool a.isNone) w := fun w a n c n' c' => Lib.run_eql_slice_nil w _ _ a n c n' c' Tryz.underlying23
    go_enter Tryz.func27, Tryz.ntmps27
    go_wp2_with fail
    exact bodyPost_ret (v := .slice none 0 0) (by simp [results, Tryz.results27, go_sem]) rfl ⟨_, rfl, (Kp.start W).fresh 59 2⟩
  | some ad =>
    have K1 := Lib.hid (((Kp.start W).alloc (.cells #[] 59)).own_block 2 0 0 (by omega) (by unfold maxLen; omega) rfl)
    obtain ⟨v', w1, hr, hk⟩ := append_trs K1.out l (.slice (some ad) l.length c) (h.keep K1.out.below) hnil (by omega)
    have HR := Lib.hid hr
    have HK := Lib.hid hk
    clear h hnil h0 h1 h2 h3 hr hk
    have q22 : ∀ (w : World) (a : Option Addr) (n c n' c' : Nat), (binOp .eql 23 (.slice a n c) (.slice none n' c')).run Tryz.prog w = .ok (.bool a.isNone) w := fun w a n c n' c' => Lib.run_eql_slice_nil w _ _ a n c n' c' Tryz.underlying23
    go_enter Tryz.func27, Tryz.ntmps27
    go_wp2_with ((at_builtin; refine wpList_append_eq rfl _ _ 23 rfl _ _ v' w1 rfl rfl HR.out ?_))
    refine bodyPost_ret (v := v') (by simp [results, Tryz.results27, go_sem]) rfl ⟨_, rfl, ?_⟩
    have := HK.out
    rw [Nat.zero_add] at this
    exact this
theorem own_nil {X : World} {B sz n : Nat} {e : TypeId} {xs : List Value} {v : Value} (h : X.ownsRow B e sz v n xs) : ∀ c, v = .slice none n c → c = 0 := by
  intro c hc
  rcases own_cells h with ⟨_, e⟩ | ⟨g', cap', e, _⟩
  · rw [e] at hc
    simp only [Value.slice.injEq] at hc
    exact hc.2.2.symm
  · rw [e] at hc
    simp at hc
set_option maxHeartbeats 8000000 in
set_option maxRecDepth 100000 in
/-- four instants that are refused -/
theorem refused_any (x : Tab) (tv rv : Value) (f : ByteArray) (E : Int) (hE0 : E ≠ 0) (t0 t1 t2 t3 : Int) (b c d : Nat) (W : World) (hE : EnvAt W) (h : TabV W tv rv f x) (hb : W.heap[b]? = some (.cells #[.slice (some ⟨c, 0, none⟩) 4 4] 42 (0, 0)))
    (hc : W.heap[c]? = some (.cells #[.int .i64 t0, .int .i64 t1, .int .i64 t2, .int .i64 t3] 2 (0, 0))) (hd : W.heap[d]? = some (.cells #[tv, rv, .string f] 25 (0, 0)))
    (h0 : idxE x t0 = (0, E)) (h1 : idxE x t1 = (0, E)) (h2 : idxE x t2 = (0, E)) (h3 : idxE x t3 = (0, E)) (hmax : x.trans.length ≤ 1000000000000) :
    Calls Tryz.prog 25 #[.int .i64 E, .pointer (some ⟨b, 0, none⟩), .pointer (some ⟨d, 0, none⟩)] W fun e w' => e = .returned (.bool true) ∧ Below W.heap.size W w' := by
  have CI := Lib.hid (fun t w h hE => index_any' x tv rv f t w h hE hmax)
  have CA := Lib.hid (fun t w h hE => look_any x tv rv f t w h hE hmax)
  have HT := Lib.hid h
  have HE := Lib.hid hE
  have HB := Lib.hid hb
  have HC := Lib.hid hc
  have HD := Lib.hid hd
  have hall : ∀ k : Nat, k < 4 → ∃ y, (∀ X : World, X.heap[c]? = some (.cells #[.int .i64 t0, .int .i64 t1, .int .i64 t2, .int .i64 t3] 2 (0, 0)) → X.cell? ⟨c, k, none⟩ = some (.int .i64 y)) ∧ idxE x y = (0, E) := by
    intro k hk
    rcases (show k = 0 ∨ k = 1 ∨ k = 2 ∨ k = 3 by omega) with rfl | rfl | rfl | rfl
    · exact ⟨t0, fun X hX => cells_at hX 0, h0⟩
    · exact ⟨t1, fun X hX => cells_at hX 1, h1⟩
    · exact ⟨t2, fun X hX => cells_at hX 2, h2⟩
    · exact ⟨t3, fun X hX => cells_at hX 3, h3⟩
  have HAll := Lib.hid hall
  have zb := lt_of_block hb
  have zc := lt_of_block hc
  have zd := lt_of_block hd
  have b0 : W.cell? ⟨b, 0, none⟩ = some (.slice (some ⟨c, 0, none⟩) 4 4) := cells_at hb 0
  have K0 := Lib.hid (Below.refl W.heap.size W)
  obtain ⟨ta, tc, rfl, _, _⟩ := h.types.slice
  obtain ⟨ra, rc, rfl, _, _⟩ := h.trans.slice
  obtain ⟨M, hM⟩ : ∃ n, x.types.length = n := ⟨_, rfl⟩
  obtain ⟨N, hN⟩ : ∃ n, x.trans.length = n := ⟨_, rfl⟩
  rw [hM, hN] at CI CA HT HD
  clear h hE hb hc hd h0 h1 h2 h3 hall hmax hM hN
  go_enter Tryz.func25, Tryz.ntmps25
  go_wp2_with fail
  go_loopw [6, 7, 8, 9, 10, 13] (fun _ _ _ _ _ v13 wr => ∃ k : Nat, k ≤ 4 ∧ v13 = .int .i64 k ∧ Below W.heap.size W wr) (fun _ _ _ _ _ v13 _ => 4 - (intOf v13).toNat)
  case atStart => exact ⟨0, by omega, rfl, K0.out⟩
  case round =>
    obtain ⟨k, hk, rfl, hB⟩ := hrel
    have HK := Lib.hid hB
    by_cases hlt : k < 4
    · obtain ⟨y, hy, hi⟩ := HAll.out k hlt
      have q0 := hy wr ((hB.block c zc).trans HC.out)
      have q1 := (hB.block d zd).trans HD.out
      have hl : lookL x y = (⟨0, false, ⟨#[]⟩⟩, E) := by
        have := look_err (x := x) (t := y) (by rw [hi]; exact hE0)
        rw [hi] at this
        exact this
      have C1 := CI.out y
      have C2 := CA.out y
      rw [hi] at C1
      rw [hl] at C2
      unfold Lc.val at C2
      dsimp only at C1 C2
      have CI1 := Lib.hid C1
      have CA1 := Lib.hid C2
      obtain ⟨⟨x0, x1, x2⟩, _, _, _⟩ := row3 q1
      have zcw : c < wr.heap.size := Nat.lt_of_lt_of_le zc hB.size
      have zdw : d < wr.heap.size := Nat.lt_of_lt_of_le zd hB.size
      have hlt' : (k : Int) < 4 := by omega
      clear hy hi hl C1 C2 q1 hB
      go_wp2_with fail
      refine (CA1.out _ (HT.out.keep HK.out) (HE.out.keep HK.out)).mono ?_
      rintro _ V ⟨rfl, hb⟩
      have KA := Lib.hid ((Kp.of (Known.nil HK.out)).keep hb)
      have KB := Lib.hid (KA.out.alloc (.cells #[.int .i64 0, .bool false, .string ⟨#[]⟩] 28))
      obtain ⟨⟨y0, y1, y2⟩, _, _, _⟩ := row3 ((KA.out.below.block d zd).trans HD.out)
      have zdv : d < V.heap.size := Nat.lt_of_lt_of_le zd KA.out.below.size
      clear hb x0 x1 x2 q0
      go_wp2_with fail
      refine (CI1.out _ (HT.out.keep KB.out.below) (HE.out.keep KB.out.below)).mono ?_
      rintro _ V2 ⟨rfl, hb⟩
      have KC := Lib.hid (KB.out.keep hb)
      obtain ⟨⟨x0, x1, x2⟩, _, _, _⟩ := row3 (KC.out.at 0 rfl)
      clear hb y0 y1 y2
      go_wp2_with fail
      go_roundw
      case rel => exact ⟨k + 1, by omega, by go_num, KC.out.below⟩
      case measure => simp [intOf]; omega
    · obtain rfl : k = 4 := by omega
      go_wp2_with fail
      go_ret
      exact ⟨rfl, HK.out⟩
end Go.Proofs.YtlaplgaccjmbhaaGreatDoor.Px

