/- Copies of slices of local times and of transitions (slices.Clone), and the closure of the law LookupRefuses: instants that are refused. The law LookupRefuses returns true for every table by numbers, kind of fault and distance: the walk. The law LookupRefuses returns true for every table by numbers, kind of fault and distance, and its tied card holds; no condition beyond the row itself. -/
import Derived.Test.YtlaplgaccjmbhaaGreatDoorG23
import Derived.Test.YtlaplgaccjmbhaaGreatDoorG20
import Derived.Lib.SliceRun
import Derived.Deep.RegionHeldLaw
import Derived.Test.YtlaplgaccjmbhaaGreatDoorG7
import Derived.Test.YtlaplgaccjmbhaaGreatDoorG13
namespace Go.Proofs.YtlaplgaccjmbhaaGreatDoor.Px
open Go.RowKit
open Civ Tb

theorem tr_one {l : List Tr} : ∀ u ∈ l.flatMap Tr.cells, u.oneCell' = true := by
  intro u hu
  obtain ⟨x, _, hx⟩ := List.mem_flatMap.1 hu
  simp only [Tr.cells, List.mem_cons, List.not_mem_nil, or_false] at hx
  rcases hx with rfl | rfl <;> rfl
/-- a list of transitions appended to a slice that the call owns -/
theorem append_trs {L : List (Nat × Obj)} {R : List Rw} {v : Value} {n : Nat} {xs : List Value} {W X : World} (h : Kp L (⟨v, 59, 2, n, xs⟩ :: R) W X) (l : List Tr) (lv : Value) (hL : TrV X lv l) (hnil : ∀ c, lv = .slice none l.length c → c = 0) (hmax : n + l.length ≤ 1000000) :
    ∃ v' w1, (Builtin.append_ #[23, 23] 23 #[v, lv]).run Tryz.prog X = .ok v' w1 ∧ Kp L (⟨v', 59, 2, n + l.length, xs ++ l.flatMap Tr.cells⟩ :: R) W w1 := by
  obtain ⟨i0, hi, hz0, hz1, hz2⟩ := info_parts infoTr
  obtain ⟨h0, a, c, rfl, h1, h2, h3⟩ := hL
  cases a with
  | none =>
    have hl : l.length = 0 := by
      rcases h3 with h3 | ⟨_, _, e, _⟩
      · exact h3
      · cases e
    have hc := hnil c rfl
    have hln : l = [] := List.length_eq_zero_iff.1 hl
    subst hln hc
    refine ⟨v, X, ?_, ?_⟩
    · exact run_append_owned_none (P := Tryz.prog) (w := X) W.heap.size 23 23 59 i0 2 Tryz.underlying23 hi v n xs (h.row 0 rfl)
    · simpa using h
  | some ad =>
    have hnews : ∀ (j : Nat) (u : Value), (l.flatMap Tr.cells)[j]? = some u → X.cell? (ad.add j) = some u := by
      intro j u hu
      rcases h3 with h3 | ⟨b, o, e, _, hc⟩
      · have hln : l = [] := List.length_eq_zero_iff.1 h3
        subst hln
        simp at hu
      · cases e
        rw [WideShapes.add_plain]
        exact hc j u hu
    obtain ⟨v', w1, hr, hown, hgrow, _, hat⟩ := run_append_own_at (P := Tryz.prog) X W.heap.size 23 23 59 i0 (.agg #[.int .i64 0, .int .i64 0]) 2 16 Tryz.underlying23 hi hz0 hz1 hz2 rfl (by decide) v n xs (h.row 0 rfl) ad l.length c (l.flatMap Tr.cells) h0 hnews tr_one (by unfold maxLen; omega) (by omega) h.below.size
    exact ⟨v', w1, hr, h.append hown hgrow hat⟩
set_option maxRecDepth 100000 in
theorem clone_lcs (l : List Lc) (v : Value) (W : World) (h : LcV W v l) (hnil : ∀ c, v = .slice none l.length c → c = 0) (hmax : l.length ≤ 1000000) :
    Calls Tryz.prog 26 #[v] W fun e w' => ∃ v', e = .returned v' ∧ Kp [] [⟨v', 28, 3, l.length, l.flatMap Lc.cells⟩] W w' := by
  have h' := h
  obtain ⟨h0, a, c, rfl, h1, h2, h3⟩ := h'
  cases a with
  | none =>
    have hc := hnil c rfl
    have hl : l.length = 0 := by
      rcases h3 with h3 | ⟨_, _, e, _⟩
      · exact h3
      · cases e
    have hln : l = [] := List.length_eq_zero_iff.1 hl
    subst hln hc
    clear h hnil h0 h1 h2 h3
    have q22 : ∀ (w : World) (a : Option Addr) (n c n' c' : Nat), (binOp .eql 22 (.slice a n c) (.slice none n' c')).run Tryz.prog w = .ok (.bool a.isNone) w := fun w a n c n' c' => Lib.run_eql_slice_nil w _ _ a n c n' c' Tryz.underlying22
    go_enter Tryz.func26, Tryz.ntmps26
    go_wp2_with fail
    exact bodyPost_ret (v := .slice none 0 0) (by simp [results, Tryz.results26, go_sem]) rfl ⟨_, rfl, (Kp.start W).fresh 28 3⟩
  | some ad =>
    have K1 := Lib.hid (((Kp.start W).alloc (.cells #[] 28)).own_block 3 0 0 (by omega) (by unfold maxLen; omega) rfl)
    obtain ⟨v', w1, hr, hk⟩ := append_list K1.out l (.slice (some ad) l.length c) (h.keep K1.out.below) hnil (by omega)
    have HR := Lib.hid hr
    have HK := Lib.hid hk
    clear h hnil h0 h1 h2 h3 hr hk
    have q22 : ∀ (w : World) (a : Option Addr) (n c n' c' : Nat), (binOp .eql 22 (.slice a n c) (.slice none n' c')).run Tryz.prog w = .ok (.bool a.isNone) w := fun w a n c n' c' => Lib.run_eql_slice_nil w _ _ a n c n' c' Tryz.underlying22
    go_enter Tryz.func26, Tryz.ntmps26
    go_wp2_with ((at_builtin; refine wpList_append_eq rfl _ _ 22 rfl _ _ v' w1 rfl rfl HR.out ?_))
    refine bodyPost_ret (v := v') (by simp [results, Tryz.results26, go_sem]) rfl ⟨_, rfl, ?_⟩
    have := HK.out
    rw [Nat.zero_add] at this
    exact this
set_option maxRecDepth 100000 in
theorem clone_trs (l : List Tr) (v : Value) (W : World) (h : TrV W v l) (hnil : ∀ c, v = .slice none l.length c → c = 0) (hmax : l.length ≤ 1000000) :
    Calls Tryz.prog 27 #[v] W fun e w' => ∃ v', e = .returned v' ∧ Kp [] [⟨v', 59, 2, l.length, l.flatMap Tr.cells⟩] W w' := by
  have h' := h
  obtain ⟨h0, a, c, rfl, h1, h2, h3⟩ := h'
  cases a with
  | none =>
    have hc := hnil c rfl
    have hl : l.length = 0 := by
      rcases h3 with h3 | ⟨_, _, e, _⟩
      · exact h3
      · cases e
    have hln : l = [] := List.length_eq_zero_iff.1 hl
    subst hln hc
    clear h hnil h0 h1 h2 h3
    have q22 : ∀ (w : World) (a : Option Addr) (n c n' c' : Nat), (binOp .eql 23 (.slice a n c) (.slice none n' c')).run Tryz.prog w = .ok (.bool a.isNone) w := fun w a n c n' c' => Lib.run_eql_slice_nil w _ _ a n c n' c' Tryz.underlying23
    go_enter Tryz.func27, Tryz.ntmps27
    go_wp2_with fail
    exact bodyPost_ret (v := .slice none 0 0) (by simp [results, Tryz.results27, go_sem]) rfl ⟨_, rfl, (Kp.start W).fresh 59 2⟩
  | some ad =>
    have K1 := Lib.hid (((Kp.start W).alloc (.cells #[] 59)).own_block 2 0 0 (by omega) (by unfold maxLen; omega) rfl)
    obtain ⟨v', w1, hr, hk⟩ := append_trs K1.out l (.slice (some ad) l.length c) (h.keep K1.out.below) hnil (by omega)
    have HR := Lib.hid hr
    have HK := Lib.hid hk
    clear h hnil h0 h1 h2 h3 hr hk
    have q22 : ∀ (w : World) (a : Option Addr) (n c n' c' : Nat), (binOp .eql 23 (.slice a n c) (.slice none n' c')).run Tryz.prog w = .ok (.bool a.isNone) w := fun w a n c n' c' => Lib.run_eql_slice_nil w _ _ a n c n' c' Tryz.underlying23
    go_enter Tryz.func27, Tryz.ntmps27
    go_wp2_with ((at_builtin; refine wpList_append_eq rfl _ _ 23 rfl _ _ v' w1 rfl rfl HR.out ?_))
    refine bodyPost_ret (v := v') (by simp [results, Tryz.results27, go_sem]) rfl ⟨_, rfl, ?_⟩
    have := HK.out
    rw [Nat.zero_add] at this
    exact this
theorem own_nil {X : World} {B sz n : Nat} {e : TypeId} {xs : List Value} {v : Value} (h : X.ownsRow B e sz v n xs) : ∀ c, v = .slice none n c → c = 0 := by
  intro c hc
  rcases own_cells h with ⟨_, e⟩ | ⟨g', cap', e, _⟩
  · rw [e] at hc
    simp only [Value.slice.injEq] at hc
    exact hc.2.2.symm
  · rw [e] at hc
    simp at hc
set_option maxHeartbeats 8000000 in
set_option maxRecDepth 100000 in
/-- four instants that are refused -/
theorem refused_any (x : Tab) (tv rv : Value) (f : ByteArray) (E : Int) (hE0 : E ≠ 0) (t0 t1 t2 t3 : Int) (b c d : Nat) (W : World) (hE : EnvAt W) (h : TabV W tv rv f x) (hb : W.heap[b]? = some (.cells #[.slice (some ⟨c, 0, none⟩) 4 4] 42 (0, 0)))
    (hc : W.heap[c]? = some (.cells #[.int .i64 t0, .int .i64 t1, .int .i64 t2, .int .i64 t3] 2 (0, 0))) (hd : W.heap[d]? = some (.cells #[tv, rv, .string f] 25 (0, 0)))
    (h0 : idxE x t0 = (0, E)) (h1 : idxE x t1 = (0, E)) (h2 : idxE x t2 = (0, E)) (h3 : idxE x t3 = (0, E)) (hmax : x.trans.length ≤ 1000000000000) :
    Calls Tryz.prog 25 #[.int .i64 E, .pointer (some ⟨b, 0, none⟩), .pointer (some ⟨d, 0, none⟩)] W fun e w' => e = .returned (.bool true) ∧ Below W.heap.size W w' := by
  have CI := Lib.hid (fun t w h hE => index_any' x tv rv f t w h hE hmax)
  have CA := Lib.hid (fun t w h hE => look_any x tv rv f t w h hE hmax)
  have HT := Lib.hid h
  have HE := Lib.hid hE
  have HB := Lib.hid hb
  have HC := Lib.hid hc
  have HD := Lib.hid hd
  have hall : ∀ k : Nat, k < 4 → ∃ y, (∀ X : World, X.heap[c]? = some (.cells #[.int .i64 t0, .int .i64 t1, .int .i64 t2, .int .i64 t3] 2 (0, 0)) → X.cell? ⟨c, k, none⟩ = some (.int .i64 y)) ∧ idxE x y = (0, E) := by
    intro k hk
    rcases (show k = 0 ∨ k = 1 ∨ k = 2 ∨ k = 3 by omega) with rfl | rfl | rfl | rfl
    · exact ⟨t0, fun X hX => cells_at hX 0, h0⟩
    · exact ⟨t1, fun X hX => cells_at hX 1, h1⟩
    · exact ⟨t2, fun X hX => cells_at hX 2, h2⟩
    · exact ⟨t3, fun X hX => cells_at hX 3, h3⟩
  have HAll := Lib.hid hall
  have zb := lt_of_block hb
  have zc := lt_of_block hc
  have zd := lt_of_block hd
  have b0 : W.cell? ⟨b, 0, none⟩ = some (.slice (some ⟨c, 0, none⟩) 4 4) := cells_at hb 0
  have K0 := Lib.hid (Below.refl W.heap.size W)
  obtain ⟨ta, tc, rfl, _, _⟩ := h.types.slice
  obtain ⟨ra, rc, rfl, _, _⟩ := h.trans.slice
  obtain ⟨M, hM⟩ : ∃ n, x.types.length = n := ⟨_, rfl⟩
  obtain ⟨N, hN⟩ : ∃ n, x.trans.length = n := ⟨_, rfl⟩
  rw [hM, hN] at CI CA HT HD
  clear h hE hb hc hd h0 h1 h2 h3 hall hmax hM hN
  go_enter Tryz.func25, Tryz.ntmps25
  go_wp2_with fail
  go_loopw [6, 7, 8, 9, 10, 13] (fun _ _ _ _ _ v13 wr => ∃ k : Nat, k ≤ 4 ∧ v13 = .int .i64 k ∧ Below W.heap.size W wr) (fun _ _ _ _ _ v13 _ => 4 - (intOf v13).toNat)
  case atStart => exact ⟨0, by omega, rfl, K0.out⟩
  case round =>
    obtain ⟨k, hk, rfl, hB⟩ := hrel
    have HK := Lib.hid hB
    by_cases hlt : k < 4
    · obtain ⟨y, hy, hi⟩ := HAll.out k hlt
      have q0 := hy wr ((hB.block c zc).trans HC.out)
      have q1 := (hB.block d zd).trans HD.out
      have hl : lookL x y = (⟨0, false, ⟨#[]⟩⟩, E) := by
        have := look_err (x := x) (t := y) (by rw [hi]; exact hE0)
        rw [hi] at this
        exact this
      have C1 := CI.out y
      have C2 := CA.out y
      rw [hi] at C1
      rw [hl] at C2
      unfold Lc.val at C2
      dsimp only at C1 C2
      have CI1 := Lib.hid C1
      have CA1 := Lib.hid C2
      obtain ⟨⟨x0, x1, x2⟩, _, _, _⟩ := row3 q1
      have zcw : c < wr.heap.size := Nat.lt_of_lt_of_le zc hB.size
      have zdw : d < wr.heap.size := Nat.lt_of_lt_of_le zd hB.size
      have hlt' : (k : Int) < 4 := by omega
      clear hy hi hl C1 C2 q1 hB
      go_wp2_with fail
      refine (CA1.out _ (HT.out.keep HK.out) (HE.out.keep HK.out)).mono ?_
      rintro _ V ⟨rfl, hb⟩
      have KA := Lib.hid ((Kp.of (Known.nil HK.out)).keep hb)
      have KB := Lib.hid (KA.out.alloc (.cells #[.int .i64 0, .bool false, .string ⟨#[]⟩] 28))
      obtain ⟨⟨y0, y1, y2⟩, _, _, _⟩ := row3 ((KA.out.below.block d zd).trans HD.out)
      have zdv : d < V.heap.size := Nat.lt_of_lt_of_le zd KA.out.below.size
      clear hb x0 x1 x2 q0
      go_wp2_with fail
      refine (CI1.out _ (HT.out.keep KB.out.below) (HE.out.keep KB.out.below)).mono ?_
      rintro _ V2 ⟨rfl, hb⟩
      have KC := Lib.hid (KB.out.keep hb)
      obtain ⟨⟨x0, x1, x2⟩, _, _, _⟩ := row3 (KC.out.at 0 rfl)
      clear hb y0 y1 y2
      go_wp2_with fail
      go_roundw
      case rel => exact ⟨k + 1, by omega, by go_num, KC.out.below⟩
      case measure => simp [intOf]; omega
    · obtain rfl : k = 4 := by omega
      go_wp2_with fail
      go_ret
      exact ⟨rfl, HK.out⟩
end Go.Proofs.YtlaplgaccjmbhaaGreatDoor.Px
namespace Go.Proofs.YtlaplgaccjmbhaaGreatDoor.Px
open Go.RowKit
open Civ Tb

theorem Kp.two_rows {L : List (Nat × Obj)} {R : List Rw} {r s : Rw} {w X : World} (h : Kp L (r :: s :: R) w X) : Kp L [r, s] w X := h.less (List.Sublist.cons_cons _ (List.Sublist.cons_cons _ (List.nil_sublist _)))
theorem Kp.sameAs {L : List (Nat × Obj)} {R : List Rw} {w X Y : World} (h : Kp L R w X) (hY : Y = X) : Kp L R w Y := by subst hY; exact h
theorem take_upd {cur : Array Value} {m i : Nat} {u : Value} : (cur.setIfInBounds i u).toList.take m = (cur.toList.take m).set i u := by
  rw [Array.toList_setIfInBounds, List.take_set]
set_option maxHeartbeats 16000000 in
set_option maxRecDepth 100000 in
theorem refuses_cells (n0 n1 o0 o1 k0 k1 d0 d1 s0 s1 : Int) (q : Bool) (fi : Int) (G K : List Int) (gv kv : Value) (what far : Int) (W : World) (h : D45V W gv kv ⟨⟨n0, n1, o0, o1, k0, k1, d0, d1, s0, s1, q⟩, fi, G, K⟩) (hin : D45.In ⟨⟨n0, n1, o0, o1, k0, k1, d0, d1, s0, s1, q⟩, fi, G, K⟩)
    (a0 : 0 ≤ what) (a1 : what ≤ 255) (l0 : 0 ≤ far) (l1 : far ≤ 4294967295) (hE : EnvAt W) :
    Calls Tryz.prog 7 #[.agg #[.int .u8 n0, .int .u8 n1, .int .u8 o0, .int .u8 o1, .int .u8 k0, .int .u8 k1, .int .u8 d0, .int .u8 d1, .int .u8 s0, .int .u8 s1, .bool q, .int .i32 fi, gv, kv], .int .u8 what, .int .u32 far] W fun e w' => e = .returned (.bool true) ∧ Below W.heap.size W w' := by
  have CM := Lib.hid (fun w h hE => made45_any n0 n1 o0 o1 k0 k1 d0 d1 s0 s1 q fi G K gv kv w h hin hE)
  have CW := Lib.hid (fun w hE => works45_any w hE)
  obtain ⟨D, hD⟩ : ∃ D, (⟨⟨n0, n1, o0, o1, k0, k1, d0, d1, s0, s1, q⟩, fi, G, K⟩ : D45) = D := ⟨_, rfl⟩
  rw [hD] at CM h hin
  obtain ⟨ga, gc, hgv, _, _⟩ := h.gaps.slice
  obtain ⟨ka, kc, hkv, _, _⟩ := h.kinds.slice
  obtain ⟨gn, hgn⟩ : ∃ n, D.gaps.length = n := ⟨_, rfl⟩
  obtain ⟨kn, hkn⟩ : ∃ n, D.kinds.length = n := ⟨_, rfl⟩
  rw [hgn] at hgv
  rw [hkn] at hkv
  subst hgv hkv
  have hr := made45_right D hin
  have hlen := made45_len D
  have hty := typesE_zero (check_zero hr).1
  have hcut := cut_is D.foot hin.fo
  have hmore : checkE ⟨D.made.types, D.made.trans, printL D.pos ++ [32]⟩ ≠ 0 := check_foot_ne hr hcut.more
  have hfl : (printL D.pos).length ≤ 74 := hcut.len
  have hfo : D.made.foot = printL D.pos := rfl
  obtain ⟨S, hS⟩ : ∃ S, printL D.pos = S := ⟨_, rfl⟩
  obtain ⟨T, hT⟩ : ∃ T, D.made = T := ⟨_, rfl⟩
  rw [hS] at hmore hfl hfo
  rw [hT] at CM hr hlen hty hmore hfo
  have hp1 := spoilt_none T
  have hp2 := spoilt_order hr
  have hp3 := spoilt_first hr
  have hp4 := spoilt_abbr T
  have hp5 := spoilt_more hr
  rw [hfo] at CM hp1 hp2 hp3 hp4 hp5
  obtain ⟨M, hM⟩ : ∃ n, T.types.length = n := ⟨_, rfl⟩
  obtain ⟨N, hN⟩ : ∃ n, T.trans.length = n := ⟨_, rfl⟩
  have hM0 : 0 < M ∧ M ≤ 254 := ⟨by rw [← hM]; exact List.length_pos_iff.2 hty.1, by rw [← hM]; exact hty.2.1⟩
  obtain ⟨hM0, hM1⟩ := hM0
  have hN1 : N ≤ 30 := by omega
  have C3 := Lib.hid (fun (tv rv : Value) (b c d : Nat) (w : World) h0 h1 h2 h3 h4 => refused_any T tv rv (bs S) 3 (by decide) (36028797018963969 + far) (-36028797018963969 - far) 9223372036854775807 (-9223372036854775808) b c d w h0 h1 h2 h3 h4 (idxE_rng hr (by omega)) (idxE_rng hr (by omega)) (idxE_rng hr (by omega)) (idxE_rng hr (by omega)) (by omega))
  have C2 := Lib.hid (fun (x : Tab) (hx : checkE x ≠ 0) (hx2 : x.trans.length ≤ 1000) (tv rv : Value) (f : ByteArray) (b c d : Nat) (w : World) h0 h1 h2 h3 h4 => refused_any x tv rv f 2 (by decide) (36028797018963969 + far) (-36028797018963969 - far) 9223372036854775807 (-9223372036854775808) b c d w h0 h1 h2 h3 h4 (idxE_bad hx) (idxE_bad hx) (idxE_bad hx) (idxE_bad hx) (by omega))
  have P0 := Lib.hid hmore
  have P1 := Lib.hid hp1
  have P2 := Lib.hid hp2
  have P3 := Lib.hid hp3
  have P4 := Lib.hid hp4
  have P5 := Lib.hid hp5
  have HFo := Lib.hid hfo
  have HM := Lib.hid hM
  have HN := Lib.hid hN
  have HH := Lib.hid h
  have HE := Lib.hid hE
  have hz := bs_size S
  have hadd : ¬ 9223372036854775807 < (bs S).size + 1 := by omega
  have f0 : IntKind.i64.wrap (36028797018963969 + far) = 36028797018963969 + far := IntWalk.i64_in _ (by omega)
  have f1 : IntKind.i64.wrap (-36028797018963969 - far) = -36028797018963969 - far := IntWalk.i64_in _ (by omega)
  have K0 := Lib.hid ((Kp.start W).alloc (.cells #[.int .u8 n0, .int .u8 n1, .int .u8 o0, .int .u8 o1, .int .u8 k0, .int .u8 k1, .int .u8 d0, .int .u8 d1, .int .u8 s0, .int .u8 s1, .bool q, .int .i32 fi, .slice ga gn gc, .slice ka kn kc] 41))
  have e25 : ∀ args w, (callFunc 25 args).run Tryz.prog w = .ok (.enter 25 args) w := enters_of Tryz.func25 (by kernel_rfl) rfl
  clear h hE hin hD hr hT hgn hkn hty hcut hmore hfl hS hp1 hp2 hp3 hp4 hp5 hM hN hlen hfo hz
  go_enter Tryz.func7, Tryz.ntmps7
  go_wp2_with fail
  refine (CM.out _ (HH.out.keep K0.out.below) (HE.out.keep K0.out.below)).mono ?_
  rintro _ V ⟨tv, rv, rfl, hk, hf⟩
  have hk1 := K0.out.adopt hk
  obtain ⟨ta, tc, rfl⟩ : ∃ a c, tv = .slice a T.types.length c := own_slice (hk1.row 1 rfl)
  obtain ⟨ra, rc, rfl⟩ : ∃ a c, rv = .slice a T.trans.length c := own_slice (hk1.row 0 rfl)
  rw [HN.out, HM.out] at hk1 ⊢
  have K1 := Lib.hid (((hk1.alloc (.cells #[.slice ta M tc, .slice ra N rc, .string (bs S)] 25)).allocAt (V.heap.size + 1) (by simp) (.cells #[.int .i64 (36028797018963969 + far), .int .i64 (-36028797018963969 - far), .int .i64 9223372036854775807, .int .i64 (-9223372036854775808)] 2)).allocAt (V.heap.size + 1 + 1) (by simp) (.cells #[.slice (some ⟨V.heap.size + 1, 0, none⟩) 4 4] 42))
  have HF := Lib.hid hf
  have HTV : Hid (∀ {L : List (Nat × Obj)} {R : List Rw} {tv rv : Value} {X : World}, Kp L (tabR tv rv T ++ R) W X → TabV X tv rv (bs S) T) := Lib.hid (by
    intro h
    rw [← HFo.out]
    exact h.tab hf)
  clear hk hk1 hf
  go_wp2_with fail
  refine (C3.out _ _ _ _ _ _ (HE.out.keep K1.out.below) (HTV.out K1.out) (K1.out.at 0 rfl) (K1.out.at 1 rfl) (K1.out.at 2 rfl)).mono ?_
  rintro _ V2 ⟨rfl, hb⟩
  have K2 := Lib.hid (K1.out.keep hb)
  clear hb C3 K0 K1
  go_upto_region 9 with fail
  go_cut [8] (fun v8 wx => v8 = .bool true ∧ ∃ tv rv, Kp [(V.heap.size + 1 + 1, .cells #[.slice (some ⟨V.heap.size + 1, 0, none⟩) 4 4] 42 (0, 0)), (V.heap.size + 1, .cells #[.int .i64 (36028797018963969 + far), .int .i64 (-36028797018963969 - far), .int .i64 9223372036854775807, .int .i64 (-9223372036854775808)] 2 (0, 0)), (V.heap.size, .cells #[tv, rv, .string (bs S)] 25 (0, 0)), (W.heap.size, .cells #[.int .u8 n0, .int .u8 n1, .int .u8 o0, .int .u8 o1, .int .u8 k0, .int .u8 k1, .int .u8 d0, .int .u8 d1, .int .u8 s0, .int .u8 s1, .bool q, .int .i32 fi, .slice ga gn gc, .slice ka kn kc] 41 (0, 0))] (tabR tv rv T ++ []) W wx)
  case first =>
    obtain ⟨⟨x0, x1, x2⟩, s0', s1', s2'⟩ := row3 (K2.out.at 2 rfl)
    have z0 := K2.out.lt 2 rfl
    go_region_law (first
      | (go_simp; go_at_call 26; refine (clone_lcs T.types _ _ (LcV.own (K2.out.drew.row 1 rfl) rfl) (own_nil (K2.out.drew.row 1 rfl)) (by have := HM.out; omega)).mono ?_; rintro _ V3 ⟨v1, rfl, hk⟩; have hk1 := K2.out.drew.adopt hk; obtain ⟨a1, c1, rfl⟩ : ∃ a c, v1 = .slice a T.types.length c := own_slice (hk1.row 0 rfl); have KA := Lib.hid hk1; have KAs := Lib.hid (hk1.set 2 rfl 0 (.slice a1 T.types.length c1) rfl); obtain ⟨⟨x0, x1, x2⟩, s0', s1', s2'⟩ := row3 (KA.out.at 2 rfl); have z0 := KA.out.lt 2 rfl; clear hk hk1)
      | (go_simp; go_at_call 27; refine (clone_trs T.trans _ _ (TrV.own (K2.out.drew.row 0 rfl) rfl) (own_nil (K2.out.drew.row 0 rfl)) (by have := HN.out; omega)).mono ?_; rintro _ V3 ⟨v1, rfl, hk⟩; have hk1 := K2.out.drew.adopt hk; obtain ⟨a2, c2, rfl⟩ : ∃ a c, v1 = .slice a T.trans.length c := own_slice (hk1.row 0 rfl); have KB := Lib.hid hk1; have KBs := Lib.hid (hk1.set 2 rfl 1 (.slice a2 T.trans.length c2) rfl); obtain ⟨⟨x0, x1, x2⟩, s0', s1', s2'⟩ := row3 (KB.out.at 2 rfl); have z0 := KB.out.lt 2 rfl; clear hk hk1)
      | (go_simp; go_at_call 27; refine (clone_trs T.trans _ _ (TrV.own (KA.out.row 1 rfl) rfl) (own_nil (KA.out.row 1 rfl)) (by have := HN.out; omega)).mono ?_; rintro _ V4 ⟨v1, rfl, hk⟩; have hk1 := KA.out.adopt hk; obtain ⟨a2, c2, rfl⟩ : ∃ a c, v1 = .slice a T.trans.length c := own_slice (hk1.row 0 rfl); have KZ := Lib.hid (hk1.two_rows); obtain ⟨⟨x0, x1, x2⟩, s0', s1', s2'⟩ := row3 (KZ.out.at 2 rfl); have z0 := KZ.out.lt 2 rfl; clear hk hk1)
      | (go_simp; go_at_call 27; refine (clone_trs T.trans _ _ (TrV.own (KAs.out.row 1 rfl) rfl) (own_nil (KAs.out.row 1 rfl)) (by have := HN.out; omega)).mono ?_; rintro _ V4 ⟨v1, rfl, hk⟩; have hk1 := KAs.out.adopt hk; obtain ⟨a2, c2, rfl⟩ : ∃ a c, v1 = .slice a T.trans.length c := own_slice (hk1.row 0 rfl); have KZ := Lib.hid (hk1.two_rows); obtain ⟨⟨x0, x1, x2⟩, s0', s1', s2'⟩ := row3 (KZ.out.at 2 rfl); have z0 := KZ.out.lt 2 rfl; clear hk hk1)
      | (go_simp; go_at_call 26; refine (clone_lcs T.types _ _ (LcV.own (KB.out.row 2 rfl) rfl) (own_nil (KB.out.row 2 rfl)) (by have := HM.out; omega)).mono ?_; rintro _ V4 ⟨v1, rfl, hk⟩; have hk1 := KB.out.adopt hk; obtain ⟨a1, c1, rfl⟩ : ∃ a c, v1 = .slice a T.types.length c := own_slice (hk1.row 0 rfl); have KZ := Lib.hid (hk1.two_rows.swap); obtain ⟨⟨x0, x1, x2⟩, s0', s1', s2'⟩ := row3 (KZ.out.at 2 rfl); have z0 := KZ.out.lt 2 rfl; clear hk hk1)
      | (go_simp; go_at_call 26; refine (clone_lcs T.types _ _ (LcV.own (KBs.out.row 2 rfl) rfl) (own_nil (KBs.out.row 2 rfl)) (by have := HM.out; omega)).mono ?_; rintro _ V4 ⟨v1, rfl, hk⟩; have hk1 := KBs.out.adopt hk; obtain ⟨a1, c1, rfl⟩ : ∃ a c, v1 = .slice a T.types.length c := own_slice (hk1.row 0 rfl); have KZ := Lib.hid (hk1.two_rows.swap); obtain ⟨⟨x0, x1, x2⟩, s0', s1', s2'⟩ := row3 (KZ.out.at 2 rfl); have z0 := KZ.out.lt 2 rfl; clear hk hk1))
    all_goals
      go_wp2_with fail
      go_meet
      refine ⟨rfl, .slice a1 T.types.length c1, .slice a2 T.trans.length c2, ?_⟩
      first
        | exact Kp.sameAs ((KZ.out.set 2 rfl 0 (.slice a1 T.types.length c1) rfl).set 2 rfl 1 (.slice a2 T.trans.length c2) rfl) (by with_reducible rfl)
        | exact Kp.sameAs ((KZ.out.set 2 rfl 1 (.slice a2 T.trans.length c2) rfl).set 2 rfl 0 (.slice a1 T.types.length c1) rfl) (by with_reducible rfl)
        | exact Kp.sameAs (KZ.out.set 2 rfl 1 (.slice a2 T.trans.length c2) rfl) (by with_reducible rfl)
        | exact Kp.sameAs (KZ.out.set 2 rfl 0 (.slice a1 T.types.length c1) rfl) (by with_reducible rfl)
  case rest =>
    obtain ⟨rfl, tv, rv, hk⟩ := hcut
    obtain ⟨a1, c1, rfl⟩ : ∃ a c, tv = .slice a T.types.length c := own_slice (hk.row 1 rfl)
    obtain ⟨a2, c2, rfl⟩ : ∃ a c, rv = .slice a T.trans.length c := own_slice (hk.row 0 rfl)
    have K3 := Lib.hid hk
    clear hk K2
    rw [HM.out, HN.out] at K3
    obtain ⟨⟨x0, x1, x2⟩, s0', s1', s2'⟩ := row3 (K3.out.at 2 rfl)
    have z0 := K3.out.lt 2 rfl
    have hw : what % 5 = 0 ∨ what % 5 = 1 ∨ what % 5 = 2 ∨ what % 5 = 3 ∨ what % 5 = 4 := by omega
    rcases hw with e | e | e | e | e
    · have K4 := Lib.hid (K3.out.set 2 rfl 2 (.string (bs S ++ ⟨#[32]⟩)) rfl)
      have TB := Lib.hid (show TabV (wc.setCell ⟨V.heap.size, 2, none⟩ (.string (bs S ++ ⟨#[32]⟩))) (.slice a1 M c1) (.slice a2 N c2) (bs S ++ ⟨#[32]⟩) ⟨T.types, T.trans, S ++ [32]⟩ from ⟨LcV.own (K4.out.row 1 rfl) rfl, TrV.own (K4.out.row 0 rfl) rfl, Off.bs_add S [32], HF.out.lcs, HF.out.trs⟩)
      go_wp2_with fail
      refine (C2.out _ P0.out (by dsimp only; rw [HN.out]; omega) _ _ _ _ _ _ _ (HE.out.keep K4.out.below) TB.out (K4.out.at 0 rfl) (K4.out.at 1 rfl) (K4.out.at 2 rfl)).mono ?_
      rintro _ V5 ⟨rfl, hb⟩
      have K5 := Lib.hid (K4.out.keep hb)
      clear hb
      go_wp2_with fail
      refine (CW.out _ (HE.out.keep K5.out.below)).mono ?_
      rintro _ V6 ⟨rfl, hb⟩
      have K6 := Lib.hid (K5.out.keep hb)
      clear hb
      go_wp2_with fail
      go_ret
      exact ⟨rfl, K6.out.below⟩
    · have K4 := Lib.hid (K3.out.set 2 rfl 0 (.slice none 0 0) rfl)
      have TB := Lib.hid (show TabV (wc.setCell ⟨V.heap.size, 0, none⟩ (.slice none 0 0)) (.slice none 0 0) (.slice a2 N c2) (bs S) ⟨[], T.trans, S⟩ from ⟨LcV.nil _, TrV.own (K4.out.row 0 rfl) rfl, rfl, (fun _ h => by cases h), HF.out.trs⟩)
      go_wp2_with fail
      refine (C2.out _ P1.out (by dsimp only; rw [HN.out]; omega) _ _ _ _ _ _ _ (HE.out.keep K4.out.below) TB.out (K4.out.at 0 rfl) (K4.out.at 1 rfl) (K4.out.at 2 rfl)).mono ?_
      rintro _ V5 ⟨rfl, hb⟩
      have K5 := Lib.hid (K4.out.keep hb)
      clear hb
      go_wp2_with fail
      refine (CW.out _ (HE.out.keep K5.out.below)).mono ?_
      rintro _ V6 ⟨rfl, hb⟩
      have K6 := Lib.hid (K5.out.keep hb)
      clear hb
      go_wp2_with fail
      go_ret
      exact ⟨rfl, K6.out.below⟩
    · obtain ⟨j0, hj, hy0, hy1, hy2⟩ := info_parts infoTr
      have KA := Lib.hid (K3.out.alloc (.cells #[.int .i64 (-36028797018963968), .int .i64 0] 59))
      by_cases hN0 : N = 0
      · subst hN0
        have hnil : T.trans = [] := List.length_eq_zero_iff.1 HN.out
        have HNil := Lib.hid hnil
        clear hnil
        go_wp2_with (first
          | (at_builtin; refine wpList_append_own_at _ rfl (.tmp 58) (.tmp 60) 23 rfl W.heap.size 59 j0 (.agg #[.int .i64 0, .int .i64 0]) 2 16 Tryz.underlying23 hj hy0 hy1 hy2 rfl (by decide) _ T.trans.length _ rfl (KA.out.row 0 rfl) ⟨wc.heap.size, 0, none⟩ 1 1 [.int .i64 (-36028797018963968), .int .i64 0] rfl rfl ?c1 ?c2 ?c3 ?c4 ?c5 ?_; (case c1 => exact World.news_of_block (KA.out.at 0 rfl)); (case c2 => simp [Value.oneCell']); (case c3 => unfold maxLen; have := HN.out; omega); (case c4 => have := HN.out; omega); (case c5 => exact KA.out.below.size); intro v' w1 hown hgrow _ hat; have hk1 := (KA.out.append hown hgrow hat).drop; obtain ⟨g, cap, cur, hv, hk2, h1, h2, h3, h4⟩ := hk1.known_of (by omega); have h3 : cur.size = cap * 2 := h3; rw [HN.out] at hv h1 h4; subst hv; have KB := Lib.hid hk2; obtain ⟨⟨x0, x1, x2⟩, s0', s1', s2'⟩ := row3 (KB.out.at 3 rfl); have z0 := KB.out.lt 3 rfl; have fg := free_at (KB.out.at 0 rfl) 1; have zg := KB.out.lt 0 rfl; have ne1 := KB.out.known.other (j := 0) (k := 3) rfl rfl (by decide); have ne2 := Ne.symm ne1; have cg : w1.cell? ⟨g, 1, none⟩ = some (cur.getD 1 undef) := (cells_at (KB.out.at 0 rfl) 1).trans (by have h9 : 1 < cur.size := (by omega); simp [Array.getD, h9]); have H2 := Lib.hid h2; have H4 := Lib.hid (And.intro h3 h4); clear hown hgrow hat hk1 hk2 h2 h3 h4))
        have KC := Lib.hid (((KB.out.set 3 rfl 1 (.slice (some ⟨g, 0, none⟩) (0 + 1) cap) rfl).set 0 rfl 1 (.int .i64 1) rfl).own_block 2 (0 + 1) cap h1 H2.out (by simp [H4.out.1]))
        have hxs : (cur.setIfInBounds 1 (.int .i64 1)).toList.take ((0 + 1) * 2) = [(⟨-36028797018963968, 1⟩ : Tr)].flatMap Tr.cells := by
          rw [take_upd, H4.out.2, HNil.out]
          rfl
        have TB := Lib.hid (show TabV _ (.slice a1 M c1) (.slice (some ⟨g, 0, none⟩) (0 + 1) cap) (bs S) ⟨T.types, [⟨-36028797018963968, 1⟩], S⟩ from ⟨LcV.own (KC.out.row 1 rfl) rfl, TrV.own (B := W.heap.size) (e := 59) (n := 0 + 1) (by rw [← hxs]; exact KC.out.row 0 rfl) rfl, rfl, HF.out.lcs, fun x hx => by rw [List.mem_singleton.1 hx]; exact ⟨by kernel_rfl, by kernel_rfl⟩⟩)
        refine (C2.out _ (P3.out HNil.out) (by simp) _ _ _ _ _ _ _ (HE.out.keep KC.out.below) TB.out (KC.out.at 0 rfl) (KC.out.at 1 rfl) (KC.out.at 2 rfl)).mono ?_
        rintro _ V5 ⟨rfl, hb⟩
        have K5 := Lib.hid (KC.out.keep hb)
        clear hb
        go_wp2_with fail
        refine (CW.out _ (HE.out.keep K5.out.below)).mono ?_
        rintro _ V6 ⟨rfl, hb⟩
        have K6 := Lib.hid (K5.out.keep hb)
        clear hb
        go_wp2_with fail
        go_ret
        exact ⟨rfl, K6.out.below⟩
      · have hN1' : ¬ (N : Int) + 1 = 1 := by omega
        have hN2' : ¬ N + 1 = 1 := by omega
        go_wp2_with (first
          | (at_builtin; refine wpList_append_own_at _ rfl (.tmp 58) (.tmp 60) 23 rfl W.heap.size 59 j0 (.agg #[.int .i64 0, .int .i64 0]) 2 16 Tryz.underlying23 hj hy0 hy1 hy2 rfl (by decide) _ T.trans.length _ rfl (KA.out.row 0 rfl) ⟨wc.heap.size, 0, none⟩ 1 1 [.int .i64 (-36028797018963968), .int .i64 0] rfl rfl ?c1 ?c2 ?c3 ?c4 ?c5 ?_; (case c1 => exact World.news_of_block (KA.out.at 0 rfl)); (case c2 => simp [Value.oneCell']); (case c3 => unfold maxLen; have := HN.out; omega); (case c4 => have := HN.out; omega); (case c5 => exact KA.out.below.size); intro v' w1 hown hgrow _ hat; have hk1 := (KA.out.append hown hgrow hat).drop; obtain ⟨a3, c3, rfl⟩ : ∃ a c, v' = .slice a (T.trans.length + 1) c := own_slice hown; have KB := Lib.hid hk1; obtain ⟨⟨x0, x1, x2⟩, s0', s1', s2'⟩ := row3 (KB.out.at 2 rfl); have z0 := KB.out.lt 2 rfl; rw [HN.out] at KB ⊢; clear hown hgrow hat hk1))
        have KC := Lib.hid (KB.out.set 2 rfl 1 (.slice a3 (N + 1) c3) rfl)
        have TB := Lib.hid (show TabV _ (.slice a1 M c1) (.slice a3 (N + 1) c3) (bs S) ⟨T.types, T.trans ++ [⟨-36028797018963968, 0⟩], S⟩ from ⟨LcV.own (KC.out.row 1 rfl) rfl, TrV.own (B := W.heap.size) (e := 59) (n := N + 1) (by rw [trs_snoc]; exact KC.out.row 0 rfl) (by rw [List.length_append, HN.out]; rfl), rfl, HF.out.lcs, fun x hx => by
          rcases List.mem_append.1 hx with hx | hx
          · exact HF.out.trs x hx
          · rw [List.mem_singleton.1 hx]
            exact ⟨by kernel_rfl, by kernel_rfl⟩⟩)
        refine (C2.out _ (P2.out (fun h => hN0 (by rw [← HN.out, h]; rfl)) 0) (by dsimp only; rw [List.length_append, HN.out, List.length_singleton]; omega) _ _ _ _ _ _ _ (HE.out.keep KC.out.below) TB.out (KC.out.at 0 rfl) (KC.out.at 1 rfl) (KC.out.at 2 rfl)).mono ?_
        rintro _ V5 ⟨rfl, hb⟩
        have K5 := Lib.hid (KC.out.keep hb)
        clear hb
        go_wp2_with fail
        refine (CW.out _ (HE.out.keep K5.out.below)).mono ?_
        rintro _ V6 ⟨rfl, hb⟩
        have K6 := Lib.hid (K5.out.keep hb)
        clear hb
        go_wp2_with fail
        go_ret
        exact ⟨rfl, K6.out.below⟩
    · obtain ⟨g, cap, cur, hv, hk2, h1, h2, h3, h4⟩ := K3.out.swap.known_of (by have := HM.out; omega)
      simp only [Value.slice.injEq] at hv
      obtain ⟨rfl, -, rfl⟩ := hv
      rw [HM.out] at h1 h4
      obtain ⟨l, r, hlr⟩ : ∃ l r, T.types = l :: r := by
        cases hh : T.types with
        | nil => have := HM.out; rw [hh] at this; simp at this; omega
        | cons l r => exact ⟨l, r, rfl⟩
      have KB := Lib.hid hk2
      have H2 := Lib.hid h2
      have H4 := Lib.hid (And.intro h3 h4)
      have HLR := Lib.hid hlr
      have fg := free_at (KB.out.at 0 rfl) 2
      have zg := KB.out.lt 0 rfl
      have cg : wc.cell? ⟨g, 2, none⟩ = some (cur.getD 2 undef) := (cells_at (KB.out.at 0 rfl) 2).trans (by have h9 : 2 < cur.size := (by omega); simp [Array.getD, h9])
      have hM2 : (0 : Int) < (M : Int) := by omega
      clear hk2 h2 h3 h4 hlr
      go_wp2_with fail
      have KC := Lib.hid ((KB.out.set 0 rfl 2 (.string ⟨#[65]⟩) rfl).own_block 3 M c1 h1 H2.out (by simp [H4.out.1]))
      have hxs : (cur.setIfInBounds 2 (.string ⟨#[65]⟩)).toList.take (M * 3) = ((⟨l.off, l.dst, bs [65]⟩ : Lc) :: r).flatMap Lc.cells := by
        rw [take_upd, H4.out.2, HLR.out]
        rfl
      have TB := Lib.hid (show TabV _ (.slice (some ⟨g, 0, none⟩) M c1) (.slice a2 N c2) (bs S) ⟨⟨l.off, l.dst, bs [65]⟩ :: r, T.trans, S⟩ from ⟨LcV.own (B := W.heap.size) (e := 28) (n := M) (by rw [← hxs]; exact KC.out.row 0 rfl) (by rw [← HM.out, HLR.out]; rfl), TrV.own (KC.out.row 1 rfl) rfl, rfl, fun x hx => by
        have hf := HF.out.lcs
        rw [HLR.out] at hf
        rcases List.mem_cons.1 hx with rfl | hx
        · exact ⟨(hf l (List.mem_cons_self ..)).1, of_decide_eq_true (by kernel_rfl)⟩
        · exact hf x (List.mem_cons_of_mem _ hx), HF.out.trs⟩)
      refine (C2.out _ (P4.out l r) (by dsimp only; rw [HN.out]; omega) _ _ _ _ _ _ _ (HE.out.keep KC.out.below) TB.out (KC.out.at 0 rfl) (KC.out.at 1 rfl) (KC.out.at 2 rfl)).mono ?_
      rintro _ V5 ⟨rfl, hb⟩
      have K5 := Lib.hid (KC.out.keep hb)
      clear hb
      go_wp2_with fail
      refine (CW.out _ (HE.out.keep K5.out.below)).mono ?_
      rintro _ V6 ⟨rfl, hb⟩
      have K6 := Lib.hid (K5.out.keep hb)
      clear hb
      go_wp2_with fail
      go_ret
      exact ⟨rfl, K6.out.below⟩
    · obtain ⟨j0, hj, hy0, hy1, hy2⟩ := info_parts infoLc
      have KA := Lib.hid (K3.out.swap.alloc (.cells #[.int .i64 0, .bool false, .string ⟨#[78, 79, 78, 69]⟩] 28))
      go_wp2_with (first
        | (at_builtin; refine wpList_append_own_at _ rfl (.tmp 41) (.tmp 43) 22 rfl W.heap.size 28 j0 (.agg #[.int .i64 0, .bool false, .string ⟨#[]⟩]) 3 32 Tryz.underlying22 hj hy0 hy1 hy2 rfl (by decide) _ T.types.length _ rfl (KA.out.row 0 rfl) ⟨wc.heap.size, 0, none⟩ 1 1 [.int .i64 0, .bool false, .string ⟨#[78, 79, 78, 69]⟩] rfl rfl ?c1 ?c2 ?c3 ?c4 ?c5 ?_; (case c1 => exact World.news_of_block (KA.out.at 0 rfl)); (case c2 => simp [Value.oneCell']); (case c3 => unfold maxLen; have := HM.out; omega); (case c4 => have := HM.out; omega); (case c5 => exact KA.out.below.size); intro v' w1 hown hgrow _ hat; have hk1 := (KA.out.append hown hgrow hat).drop; obtain ⟨a3, c3, rfl⟩ : ∃ a c, v' = .slice a (T.types.length + 1) c := own_slice hown; have KB := Lib.hid hk1; obtain ⟨⟨x0, x1, x2⟩, s0', s1', s2'⟩ := row3 (KB.out.at 2 rfl); have z0 := KB.out.lt 2 rfl; rw [HM.out] at KB ⊢; clear hown hgrow hat hk1))
      have KC := Lib.hid (KB.out.set 2 rfl 0 (.slice a3 (M + 1) c3) rfl)
      have TB := Lib.hid (show TabV _ (.slice a3 (M + 1) c3) (.slice a2 N c2) (bs S) ⟨T.types ++ [⟨0, false, bs [78, 79, 78, 69]⟩], T.trans, S⟩ from ⟨LcV.own (B := W.heap.size) (e := 28) (n := M + 1) (by rw [lcs_snoc]; exact KC.out.row 0 rfl) (by rw [List.length_append, HM.out]; rfl), TrV.own (KC.out.row 1 rfl) rfl, rfl, fun x hx => by
        rcases List.mem_append.1 hx with hx | hx
        · exact HF.out.lcs x hx
        · rw [List.mem_singleton.1 hx]
          exact ⟨by kernel_rfl, of_decide_eq_true (by kernel_rfl)⟩, HF.out.trs⟩)
      refine (C2.out _ (P5.out ⟨0, false, bs [78, 79, 78, 69]⟩) (by dsimp only; rw [HN.out]; omega) _ _ _ _ _ _ _ (HE.out.keep KC.out.below) TB.out (KC.out.at 0 rfl) (KC.out.at 1 rfl) (KC.out.at 2 rfl)).mono ?_
      rintro _ V5 ⟨rfl, hb⟩
      have K5 := Lib.hid (KC.out.keep hb)
      clear hb
      go_wp2_with fail
      refine (CW.out _ (HE.out.keep K5.out.below)).mono ?_
      rintro _ V6 ⟨rfl, hb⟩
      have K6 := Lib.hid (K5.out.keep hb)
      clear hb
      go_wp2_with fail
      go_ret
      exact ⟨rfl, K6.out.below⟩
end Go.Proofs.YtlaplgaccjmbhaaGreatDoor.Px
namespace Go.Proofs.YtlaplgaccjmbhaaGreatDoor.Px
open Go.RowKit
open Civ Tb

theorem lookupRefuses_walk (x : D45) (gv kv : Value) {W : World} (h : D45V W gv kv x) (hin : x.In) (n1 : Int) (hn1 : (Lit.int IntKind.u8 n1).wf = true) (n2 : Int) (hn2 : (Lit.int IntKind.u32 n2).wf = true) (hE : EnvAt W) :
    Calls Tryz.prog 7 #[d45val x gv kv, .int .u8 n1, .int .u32 n2] W fun e w' => e = .returned (.bool true) ∧ Below W.heap.size W w' := by
  obtain ⟨⟨a0, a1, a2, a3, a4, a5, a6, a7, a8, a9, q⟩, fi, G, K⟩ := x
  rw [d45val_is]
  exact refuses_cells a0 a1 a2 a3 a4 a5 a6 a7 a8 a9 q fi G K gv kv n1 n2 W h hin (wf_u8 hn1).1 (wf_u8 hn1).2 (wf_u32 hn2).1 (wf_u32 hn2).2 hE
end Go.Proofs.YtlaplgaccjmbhaaGreatDoor.Px
namespace Go.Proofs.YtlaplgaccjmbhaaGreatDoor
open Go.ChangeShapes Go.WideShapes Go.ChangeAt Go.RowKit
open Go.ChangeMaps (open_string)

namespace lookupRefuses
theorem own : ownKnob Tryz.prog.godebug = none := by kernel_rfl
set_option maxRecDepth 100000 in
theorem lifted (os : Os) (started : os.Started) (H : Type) (enc : TypeId × Value → H) :
    ReturnsInHanded {} Tryz.checked os 7 .any (fun w args => (Rows.lookupRefusesSpec.pre enc Tryz.prog Tryz.f7 Rows.lookupRefusesRow.domain false w args ∧ laidMetH Tryz.prog Rows.lookupRefusesRow.laid w) ∧ sizedMet enc Tryz.prog Tryz.f7 (OpenSpec.ofChange Rows.lookupRefusesSpec) false w args)
      (Rows.lookupRefusesSpec.post enc Tryz.prog Tryz.f7 false true false false) := by
  refine returnsInHanded_of_change_and (C := Tryz.checked) (X := fun w _ => laidMetH Tryz.prog Rows.lookupRefusesRow.laid w) (fun _ _ _ hh h => h.of_heap hh) own started (by kernel_rfl) Tryz.func7
    (ChangeSpec.witness_shaped (enc := enc) (C := Tryz.checked) (os := os) (X := fun w _ => laidMetH Tryz.prog Rows.lookupRefusesRow.laid w) false ((World.doorLaid Tryz.prog 4000 os).layVars Tryz.prog [("unicode/utf8.first", Rows.laid_unicode_utf8_first)]) #[.agg #[.int .u8 0, .int .u8 0, .int .u8 0, .int .u8 0, .int .u8 0, .int .u8 0, .int .u8 0, .int .u8 0, .int .u8 0, .int .u8 0, .bool false, .int .i32 0, .slice none 0 0, .slice none 0 0], .int .u8 0, .int .u32 0] 8 (door_os os)
      (World.shaped_of_ZipB (by kernel_rfl) (by kernel_rfl)) (by kernel_rfl) (by kernel_rfl) (by kernel_rfl) (door_met os _)) ?_
  intro W base args ds gs before hval0 hW _ _ hL _
  have hval : ∀ (j : Nat) t v, Tryz.f7.params[j]? = some t → args[j]? = some v → Value.okWide Tryz.prog W .any base t v := hval0
  have hEnv : Px.EnvAt W := Px.env_of hL
  have hW' := hW
  obtain ⟨p, q, hA0, hV, rfl, _, _⟩ := hW
  have hA : DataW.TrodAll enc Tryz.prog W 0 (fun _ => true) true Tryz.f7.params.toList args.toList ds p := hA0
  rw [Tryz.params7] at hA hval
  obtain ⟨v0, vs0, d0, ds0, p0, q0, hargs, rfl, rfl, h0, r0⟩ := trodAll_cons hA
  obtain ⟨v1, vs1, d1, ds1, p1, q1, rfl, rfl, rfl, h1, r1⟩ := trodAll_cons r0
  obtain ⟨v2, vs2, d2, ds2, p2, q2, rfl, rfl, rfl, h2, r2⟩ := trodAll_cons r1
  obtain ⟨rfl, rfl, rfl⟩ := trodAll_nil r2
  obtain rfl : args = #[v0, v1, v2] := by cases args; simp_all
  obtain ⟨rfl, rfl⟩ := trodVars_none hV
  obtain ⟨x0, gv0, kv0, rfl, hx0, hd0⟩ := Px.open_d45 (hval 0 41 v0 rfl rfl) h0
  obtain ⟨n1, rfl, rfl, rfl, hn1⟩ := open_int Tryz.underlying5 (hval 1 5 v1 rfl rfl) h1
  obtain ⟨n2, rfl, rfl, rfl, hn2⟩ := open_int Tryz.underlying55 (hval 2 55 v2 rfl rfl) h2
  refine (Px.lookupRefuses_walk x0 gv0 kv0 hx0 hd0 n1 hn1 n2 hn2 hEnv).mono fun e W' ⟨he, hB⟩ => ?_
  subst he
  refine ⟨_, rfl, post_law (by kernel_rfl) ?_ rfl hW' rfl rfl Tryz.underlying4 hB⟩
  rw [Tryz.params7]
  intro t ht
  have hall : ([41, 5, 55].all fun u => Tryz.prog.readableRec u && decide (u < Tryz.prog.types.size)) = true := by kernel_rfl
  have h1 := List.all_eq_true.1 hall t ht
  have h2 : Tryz.prog.readableRec t = true ∧ t < Tryz.prog.types.size := by simpa using h1
  exact h2
set_option maxHeartbeats 8000000 in
theorem facts : joinedFacts Tryz.pinned.checked.prog 7 Tryz.f7 Rows.lookupRefusesSpec Rows.lookupRefusesRow = true := by
  simp only [joinedFacts, Bool.and_eq_true]
  and_intros
  all_goals (as_aux_lemma => kernel_rfl)
theorem named : Tryz.pinned.checked.prog.funcNamed Rows.lookupRefusesRow.func = some 7 := by kernel_rfl
theorem said : Rows.LookupRefusesSaid :=
  OpenClaim.holds_of_wide 7 Tryz.f7 rfl rfl rfl rfl rfl rfl rfl ⟨rfl, rfl, rfl, rfl, rfl⟩ rfl rfl rfl rfl rfl named Tryz.func7 facts
    (of_decide_eq_true (by kernel_rfl)) (by unfold Func.isWrapper; first | (rw [if_pos (by decide +kernel)]; kernel_rfl) | (rw [if_neg (by decide +kernel)]; exact ⟨rfl, rfl⟩))
    (fun os started H enc _ => lifted os started H enc)
theorem plain (f : FuncId) (fn : Func) (hf : Tryz.pinned.checked.prog.funcNamed "analemma/analemmalaw45.LookupRefuses" = some f) (hfn : Tryz.pinned.checked.prog.funcs[f]? = some fn) :
    true = Tryz.pinned.checked.prog.looks [] ∧ ∀ (j : Nat) t, fn.params[j]? = some t → Tryz.pinned.checked.prog.wantsStandIn t = false := by
  obtain rfl : f = 7 := Option.some.inj ((show Tryz.prog.funcNamed "analemma/analemmalaw45.LookupRefuses" = some 7 by kernel_rfl).symm.trans hf) |>.symm
  obtain rfl : fn = Tryz.f7 := (Option.some.inj (Tryz.func7.symm.trans hfn)).symm
  refine ⟨by kernel_rfl, fun j t ht => ?_⟩
  rw [Tryz.params7] at ht
  have hm : t ∈ [41, 5, 55] := by simpa using Array.mem_of_getElem? ht
  have hall : ([41, 5, 55].all fun u => !Tryz.prog.wantsStandIn u) = true := by kernel_rfl
  exact (show Tryz.prog.wantsStandIn t = false by simpa using List.all_eq_true.1 hall t hm)
theorem card : Rows.LookupRefusesCardSaid :=
  Claim7.holds_tied_plain_at .later [] _ _ _ _ said (fun _ h => by cases h) (by kernel_rfl) (fun _ h => by cases h) lookupRefuses_row_tie rfl ⟨rfl, rfl⟩ (by kernel_rfl) rfl plain (by kernel_rfl)
end lookupRefuses
#print axioms lookupRefuses.card

end Go.Proofs.YtlaplgaccjmbhaaGreatDoor
