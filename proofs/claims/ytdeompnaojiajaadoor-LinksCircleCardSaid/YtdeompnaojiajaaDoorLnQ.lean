/- The library's Clone at zones and at links; few. -/
import Derived.Test.YtdeompnaojiajaaDoorLnY
import Derived.Test.YtdeompnaojiajaaDoorLnO
namespace Go.Proofs.YtdeompnaojiajaaDoor.Px
open Go.RowKit
open Go.Maps (Keyed)
open Lk

theorem wpList_append_eq {P : Program} {w : World} {ops : Array Oper} {rest : List Oper} {o : Oper} {a : Act} {Q : Exit → Act → World → Prop} (hgd : o.guard = none) (s x : Operand) (t : TypeId)
    (ho : o.op = .call { callee := .builtin .append, args := #[s, x], argTypes := #[t, t] }) (vs vx v' : Value) (w' : World) (hs : a.eval s = vs) (hx : a.eval x = vx) (hr : (Builtin.append_ #[t, t] o.type #[vs, vx]).run P w = .ok v' w')
    (h : wpList P ops Q rest (a.put o.dst v') w') : wpList P ops Q (o :: rest) a w := by
  refine wpList_plain hgd fun K hK => ?_
  unfold Oper.wp execOp
  simp only [ho, resolve, invoke, builtin, Sem.run_bind, Sem.run_pure, Result.andThen_ok, List.map_toArray, List.map_cons, List.map_nil, hs, hx, hr]
  exact hK _ _ h
theorem own_nil {X : World} {B sz n : Nat} {e : TypeId} {xs : List Value} {v : Value} (h : X.ownsRow B e sz v n xs) : ∀ c, v = .slice none n c → c = 0 := by
  intro c hc
  rcases own_cells h with ⟨_, e⟩ | ⟨g', cap', e, _⟩
  · rw [e] at hc
    simp only [Value.slice.injEq] at hc
    exact hc.2.2.symm
  · rw [e] at hc
    simp at hc
theorem one_zones {l : List (Zo)} : ∀ u ∈ l.flatMap zcells, u.oneCell' = true := by
  intro u hu
  obtain ⟨x, _, hx⟩ := List.mem_flatMap.1 hu
  simp only [zcells, List.mem_cons, List.not_mem_nil, or_false] at hx
  rcases hx with rfl | rfl <;> rfl
/-- a list appended to a slice that the call owns -/
theorem append_zones {L : List (Nat × Obj)} {R : List Rw} {v : Value} {n : Nat} {xs : List Value} {W X : World} (h : Kp L (⟨v, 33, 2, n, xs⟩ :: R) W X) (l : List (Zo)) (lv : Value) (hL : SlV X lv 2 l.length (l.flatMap zcells)) (hnil : ∀ c, lv = .slice none l.length c → c = 0) (hmax : n + l.length ≤ 1000000) :
    ∃ v' w1, (Builtin.append_ #[23, 23] 23 #[v, lv]).run Tryd.prog X = .ok v' w1 ∧ Kp L (⟨v', 33, 2, n + l.length, xs ++ l.flatMap zcells⟩ :: R) W w1 := by
  obtain ⟨i0, hi, hz0, hz1, hz2⟩ := info_partsU infoZn
  obtain ⟨h0, a, c, rfl, h1, h2, h3⟩ := hL
  cases a with
  | none =>
    have hl : l.length = 0 := by
      rcases h3 with h3 | ⟨_, _, e, _⟩
      · exact h3
      · cases e
    have hc := hnil c rfl
    have hln : l = [] := List.length_eq_zero_iff.1 hl
    subst hln hc
    refine ⟨v, X, ?_, ?_⟩
    · exact run_append_owned_none (P := Tryd.prog) (w := X) W.heap.size 23 23 33 i0 2 Tryd.underlying23 hi v n xs (h.row 0 rfl)
    · simpa using h
  | some ad =>
    have hnews : ∀ (j : Nat) (u : Value), (l.flatMap zcells)[j]? = some u → X.cell? (ad.add j) = some u := by
      intro j u hu
      rcases h3 with h3 | ⟨b, o, e, _, hc⟩
      · have hln : l = [] := List.length_eq_zero_iff.1 h3
        subst hln
        simp at hu
      · cases e
        rw [WideShapes.add_plain]
        exact hc j u hu
    obtain ⟨v', w1, hr, hown, hgrow, _, hat⟩ := run_append_own_at (P := Tryd.prog) X W.heap.size 23 23 33 i0 (.agg #[.string ⟨#[]⟩, .slice none 0 0]) 2 40 Tryd.underlying23 hi hz0 hz1 hz2 rfl (by decide) v n xs (h.row 0 rfl) ad l.length c (l.flatMap zcells) h0 hnews one_zones (by unfold maxLen; omega) (by omega) h.below.size
    exact ⟨v', w1, hr, h.append hown hgrow hat⟩
set_option maxRecDepth 100000 in
theorem clone_zones (l : List (Zo)) (v : Value) (W : World) (h : SlV W v 2 l.length (l.flatMap zcells)) (hnil : ∀ c, v = .slice none l.length c → c = 0) (hmax : l.length ≤ 1000000) :
    Calls Tryd.prog 10 #[v] W fun e w' => ∃ v', e = .returned v' ∧ Kp [] [⟨v', 33, 2, l.length, l.flatMap zcells⟩] W w' := by
  have h' := h
  obtain ⟨h0, a, c, rfl, h1, h2, h3⟩ := h'
  cases a with
  | none =>
    have hc := hnil c rfl
    have hl : l.length = 0 := by
      rcases h3 with h3 | ⟨_, _, e, _⟩
      · exact h3
      · cases e
    have hln : l = [] := List.length_eq_zero_iff.1 hl
    subst hln hc
    clear h hnil h0 h1 h2 h3
    have q22 : ∀ (w : World) (a : Option Addr) (n c n' c' : Nat), (binOp .eql 23 (.slice a n c) (.slice none n' c')).run Tryd.prog w = .ok (.bool a.isNone) w := fun w a n c n' c' => Lib.run_eql_slice_nil w _ _ a n c n' c' Tryd.underlying23
    go_enter Tryd.func10, Tryd.ntmps10
    go_wp2_with fail
    exact bodyPost_ret (v := .slice none 0 0) (by simp [results, Tryd.results10, go_sem]) rfl ⟨_, rfl, (Kp.start W).fresh 33 2⟩
  | some ad =>
    have K1 := Lib.hid (((Kp.start W).alloc (.cells #[] 33)).own_block 2 0 0 (by omega) (by unfold maxLen; omega) rfl)
    obtain ⟨v', w1, hr, hk⟩ := append_zones K1.out l (.slice (some ad) l.length c) (h.keep K1.out.below) hnil (by omega)
    have HR := Lib.hid hr
    have HK := Lib.hid hk
    clear h hnil h0 h1 h2 h3 hr hk
    have q22 : ∀ (w : World) (a : Option Addr) (n c n' c' : Nat), (binOp .eql 23 (.slice a n c) (.slice none n' c')).run Tryd.prog w = .ok (.bool a.isNone) w := fun w a n c n' c' => Lib.run_eql_slice_nil w _ _ a n c n' c' Tryd.underlying23
    go_enter Tryd.func10, Tryd.ntmps10
    go_wp2_with ((at_builtin; refine wpList_append_eq rfl _ _ 23 rfl _ _ v' w1 rfl rfl HR.out ?_))
    refine bodyPost_ret (v := v') (by simp [results, Tryd.results10, go_sem]) rfl ⟨_, rfl, ?_⟩
    have := HK.out
    rw [Nat.zero_add] at this
    exact this
theorem one_links {l : List (List UInt8 × List UInt8)} : ∀ u ∈ l.flatMap kcells, u.oneCell' = true := by
  intro u hu
  obtain ⟨x, _, hx⟩ := List.mem_flatMap.1 hu
  simp only [kcells, List.mem_cons, List.not_mem_nil, or_false] at hx
  rcases hx with rfl | rfl <;> rfl
/-- a list appended to a slice that the call owns -/
theorem append_links {L : List (Nat × Obj)} {R : List Rw} {v : Value} {n : Nat} {xs : List Value} {W X : World} (h : Kp L (⟨v, 36, 2, n, xs⟩ :: R) W X) (l : List (List UInt8 × List UInt8)) (lv : Value) (hL : SlV X lv 2 l.length (l.flatMap kcells)) (hnil : ∀ c, lv = .slice none l.length c → c = 0) (hmax : n + l.length ≤ 1000000) :
    ∃ v' w1, (Builtin.append_ #[24, 24] 24 #[v, lv]).run Tryd.prog X = .ok v' w1 ∧ Kp L (⟨v', 36, 2, n + l.length, xs ++ l.flatMap kcells⟩ :: R) W w1 := by
  obtain ⟨i0, hi, hz0, hz1, hz2⟩ := info_partsU infoLn
  obtain ⟨h0, a, c, rfl, h1, h2, h3⟩ := hL
  cases a with
  | none =>
    have hl : l.length = 0 := by
      rcases h3 with h3 | ⟨_, _, e, _⟩
      · exact h3
      · cases e
    have hc := hnil c rfl
    have hln : l = [] := List.length_eq_zero_iff.1 hl
    subst hln hc
    refine ⟨v, X, ?_, ?_⟩
    · exact run_append_owned_none (P := Tryd.prog) (w := X) W.heap.size 24 24 36 i0 2 Tryd.underlying24 hi v n xs (h.row 0 rfl)
    · simpa using h
  | some ad =>
    have hnews : ∀ (j : Nat) (u : Value), (l.flatMap kcells)[j]? = some u → X.cell? (ad.add j) = some u := by
      intro j u hu
      rcases h3 with h3 | ⟨b, o, e, _, hc⟩
      · have hln : l = [] := List.length_eq_zero_iff.1 h3
        subst hln
        simp at hu
      · cases e
        rw [WideShapes.add_plain]
        exact hc j u hu
    obtain ⟨v', w1, hr, hown, hgrow, _, hat⟩ := run_append_own_at (P := Tryd.prog) X W.heap.size 24 24 36 i0 (.agg #[.string ⟨#[]⟩, .string ⟨#[]⟩]) 2 32 Tryd.underlying24 hi hz0 hz1 hz2 rfl (by decide) v n xs (h.row 0 rfl) ad l.length c (l.flatMap kcells) h0 hnews one_links (by unfold maxLen; omega) (by omega) h.below.size
    exact ⟨v', w1, hr, h.append hown hgrow hat⟩
set_option maxRecDepth 100000 in
theorem clone_links (l : List (List UInt8 × List UInt8)) (v : Value) (W : World) (h : SlV W v 2 l.length (l.flatMap kcells)) (hnil : ∀ c, v = .slice none l.length c → c = 0) (hmax : l.length ≤ 1000000) :
    Calls Tryd.prog 11 #[v] W fun e w' => ∃ v', e = .returned v' ∧ Kp [] [⟨v', 36, 2, l.length, l.flatMap kcells⟩] W w' := by
  have h' := h
  obtain ⟨h0, a, c, rfl, h1, h2, h3⟩ := h'
  cases a with
  | none =>
    have hc := hnil c rfl
    have hl : l.length = 0 := by
      rcases h3 with h3 | ⟨_, _, e, _⟩
      · exact h3
      · cases e
    have hln : l = [] := List.length_eq_zero_iff.1 hl
    subst hln hc
    clear h hnil h0 h1 h2 h3
    have q22 : ∀ (w : World) (a : Option Addr) (n c n' c' : Nat), (binOp .eql 24 (.slice a n c) (.slice none n' c')).run Tryd.prog w = .ok (.bool a.isNone) w := fun w a n c n' c' => Lib.run_eql_slice_nil w _ _ a n c n' c' Tryd.underlying24
    go_enter Tryd.func11, Tryd.ntmps11
    go_wp2_with fail
    exact bodyPost_ret (v := .slice none 0 0) (by simp [results, Tryd.results11, go_sem]) rfl ⟨_, rfl, (Kp.start W).fresh 36 2⟩
  | some ad =>
    have K1 := Lib.hid (((Kp.start W).alloc (.cells #[] 36)).own_block 2 0 0 (by omega) (by unfold maxLen; omega) rfl)
    obtain ⟨v', w1, hr, hk⟩ := append_links K1.out l (.slice (some ad) l.length c) (h.keep K1.out.below) hnil (by omega)
    have HR := Lib.hid hr
    have HK := Lib.hid hk
    clear h hnil h0 h1 h2 h3 hr hk
    have q22 : ∀ (w : World) (a : Option Addr) (n c n' c' : Nat), (binOp .eql 24 (.slice a n c) (.slice none n' c')).run Tryd.prog w = .ok (.bool a.isNone) w := fun w a n c n' c' => Lib.run_eql_slice_nil w _ _ a n c n' c' Tryd.underlying24
    go_enter Tryd.func11, Tryd.ntmps11
    go_wp2_with ((at_builtin; refine wpList_append_eq rfl _ _ 24 rfl _ _ v' w1 rfl rfl HR.out ?_))
    refine bodyPost_ret (v := v') (by simp [results, Tryd.results11, go_sem]) rfl ⟨_, rfl, ?_⟩
    have := HK.out
    rw [Nat.zero_add] at this
    exact this
/-- what few answers -/
def FewPost (nz nl : Nat) (W : World) (e : Ending) (w' : World) : Prop := ∃ r, e = .returned (.bool r) ∧ (r = true → nz ≤ 20 ∧ nl ≤ 20) ∧ Below W.heap.size W w'
theorem few_mk {nz nl : Nat} {W w' : World} {r : Bool} (h : r = true → nz ≤ 20 ∧ nl ≤ 20) (hB : Below W.heap.size W w') : FewPost nz nl W (.returned (.bool r)) w' := ⟨r, rfl, h, hB⟩
set_option maxHeartbeats 4000000 in
set_option maxRecDepth 100000 in
theorem few_any (rv zv lv sv : Value) (Z : List Zo) (L : List (List UInt8 × List UInt8)) (W : World) (h : SrcV W zv lv Z L) :
    Calls Tryd.prog 8 #[.agg #[rv, zv, lv, sv]] W (FewPost Z.length L.length W) := by
  obtain ⟨az, cz, rfl, hzc1, hzc2⟩ := h.zo.slA
  have hallz := fun h0 => h.zo.allA h0
  obtain ⟨al, cl, rfl, hlc1, hlc2⟩ := h.lk.slA
  have halll := fun h0 => h.lk.allA h0
  have HZm := Lib.hid h.zn
  have HLm := Lib.hid h.ln
  obtain ⟨nz, hnz⟩ : ∃ n, Z.length = n := ⟨_, rfl⟩
  obtain ⟨nl, hnl⟩ : ∃ n, L.length = n := ⟨_, rfl⟩
  rw [hnz] at hallz hzc1 ⊢
  rw [hnl] at halll hlc1 ⊢
  unfold maxLen at hzc2 hlc2
  have HAz := Lib.hid hallz
  have HAl := Lib.hid halll
  have HNz := Lib.hid hnz
  have HNl := Lib.hid hnl
  have KB := Lib.hid ((Kp.start W).allocAt W.heap.size rfl (.cells #[rv, .slice az nz cz, .slice al nl cl, sv] 27))
  obtain ⟨W1, hW1⟩ : ∃ X, W.alloc (.cells #[rv, .slice az nz cz, .slice al nl cl, sv] 27) = X := ⟨_, rfl⟩
  rw [hW1] at KB
  obtain ⟨v0, v1, v2, v3⟩ := row4 (KB.out.at 0 rfl)
  clear h hallz halll hnz hnl
  by_cases h20 : (20 : Int) < (nz : Int)
  · go_enter Tryd.func8, Tryd.ntmps8
    go_wp2_with fail
    refine bodyPost_ret (v := .bool false) (by simp [results, Tryd.results8, go_sem]) rfl (few_mk (fun h => by cases h) KB.out.below)
  · by_cases h21 : (20 : Int) < (nl : Int)
    · go_enter Tryd.func8, Tryd.ntmps8
      go_wp2_with fail
      refine bodyPost_ret (v := .bool false) (by simp [results, Tryd.results8, go_sem]) rfl (few_mk (fun h => by cases h) KB.out.below)
    · go_enter Tryd.func8, Tryd.ntmps8
      go_wp2_with fail
      go_loopw [4, 20] (fun _ i20 wr => ∃ i : Nat, i ≤ nz ∧ i20 = .int .i64 (i : Int) ∧ Below W1.heap.size W1 wr) (fun _ i20 _ => nz - (intOf i20).toNat)
      case atStart => exact ⟨0, by omega, rfl, by first | exact Below.refl _ _ | (rw [hW1]; exact Below.refl _ _)⟩
      case round =>
        obtain ⟨i, hi', rfl, hB⟩ := hrel
        have HB := Lib.hid hB
        have HK := Lib.hid (KB.out.keep HB.out)
        obtain ⟨u0, u1, u2, u3⟩ := row4 (HK.out.at 0 rfl)
        clear hB v0 v1 v2 v3
        try clear hW1
        by_cases hlt : i < nz
        · obtain ⟨b, o, c', e1, _, _, hb, hcell⟩ := HAz.out (by omega)
          simp only [Value.slice.injEq] at e1
          obtain ⟨rfl, _, rfl⟩ := e1
          obtain ⟨x, hx⟩ : ∃ x, Z[i]? = some x := ⟨_, List.getElem?_eq_getElem (by rw [HNz.out]; exact hlt)⟩
          obtain ⟨q0, q1⟩ := zo_at Z hx
          have k0 := (HK.out.below.cell (p := ⟨b, o + i * 2, none⟩) hb).trans (hcell _ _ q0)
          have k1 := (HK.out.below.cell (p := ⟨b, o + i * 2 + 1, none⟩) hb).trans (hcell _ _ q1)
          have hbw := Nat.lt_of_lt_of_le hb HK.out.below.size
          obtain ⟨x1, x2, x3, x4⟩ := x
          dsimp only at k0 k1
          obtain ⟨s, hs⟩ : ∃ s, bs x1 = s := ⟨_, rfl⟩
          rw [hs] at k0
          have KA := Lib.hid (HK.out.allocAt wr.heap.size rfl (.cells #[.string s, .slice x2 x3 x4] 33))
          have HBA := Lib.hid (HB.out.alloc HB.out.size (.cells #[.string s, .slice x2 x3 x4] 33))
          clear hx hcell q0 q1 hs
          by_cases hl : (100 : Int) < (s.size : Int)
          · go_wp2_with fail
            refine bodyPost_ret (v := .bool false) (by simp [results, Tryd.results8, go_sem]) rfl (few_mk (fun h => by cases h) KA.out.below)
          · go_wp2_with fail
            go_roundw
            case rel => exact ⟨i + 1, by omega, by go_num, HBA.out⟩
            case measure => simp [intOf]; omega
        · obtain rfl : nz = i := by omega
          go_wp2_with fail
          clear u0 u1 u2 u3 HK
          go_loopw [6, 32] (fun _ i32 wr => ∃ i : Nat, i ≤ nl ∧ i32 = .int .i64 (i : Int) ∧ Below W1.heap.size W1 wr) (fun _ i32 _ => nl - (intOf i32).toNat)
          case atStart => exact ⟨0, by omega, rfl, HB.out⟩
          case round =>
            clear HB
            obtain ⟨i, hi', rfl, hB⟩ := hrel
            have HB := Lib.hid hB
            have HK := Lib.hid (KB.out.keep HB.out)
            clear hB
            by_cases hlt : i < nl
            · obtain ⟨b, o, c', e1, _, _, hb, hcell⟩ := HAl.out (by omega)
              simp only [Value.slice.injEq] at e1
              obtain ⟨rfl, _, rfl⟩ := e1
              obtain ⟨x, hx⟩ : ∃ x, L[i]? = some x := ⟨_, List.getElem?_eq_getElem (by rw [HNl.out]; exact hlt)⟩
              obtain ⟨q0, q1⟩ := lk_at L hx
              have k0 := (HK.out.below.cell (p := ⟨b, o + i * 2, none⟩) hb).trans (hcell _ _ q0)
              have k1 := (HK.out.below.cell (p := ⟨b, o + i * 2 + 1, none⟩) hb).trans (hcell _ _ q1)
              have hbw := Nat.lt_of_lt_of_le hb HK.out.below.size
              obtain ⟨x1, x2⟩ := x
              dsimp only at k0 k1
              obtain ⟨s1, hs1⟩ : ∃ s, bs x1 = s := ⟨_, rfl⟩
              obtain ⟨s2, hs2⟩ : ∃ s, bs x2 = s := ⟨_, rfl⟩
              rw [hs2] at k0
              rw [hs1] at k1
              have KA := Lib.hid (HK.out.allocAt wr.heap.size rfl (.cells #[.string s2, .string s1] 36))
              have HBA := Lib.hid (HB.out.alloc HB.out.size (.cells #[.string s2, .string s1] 36))
              obtain ⟨m0, m1⟩ := row2 (KA.out.at 0 rfl)
              clear hx hcell q0 q1 hs1 hs2
              by_cases hl : (100 : Int) < (s1.size : Int)
              · go_wp2_with fail
                refine bodyPost_ret (v := .bool false) (by simp [results, Tryd.results8, go_sem]) rfl (few_mk (fun h => by cases h) KA.out.below)
              · by_cases hl2 : (100 : Int) < (s2.size : Int)
                · go_wp2_with fail
                  refine bodyPost_ret (v := .bool false) (by simp [results, Tryd.results8, go_sem]) rfl (few_mk (fun h => by cases h) KA.out.below)
                · go_wp2_with fail
                  go_roundw
                  case rel => exact ⟨i + 1, by omega, by go_num, HBA.out⟩
                  case measure => simp [intOf]; omega
            · obtain rfl : nl = i := by omega
              go_wp2_with fail
              refine bodyPost_ret (v := .bool true) (by simp [results, Tryd.results8, go_sem]) rfl (few_mk (fun _ => ⟨by omega, by omega⟩) HK.out.below)
end Go.Proofs.YtdeompnaojiajaaDoor.Px
