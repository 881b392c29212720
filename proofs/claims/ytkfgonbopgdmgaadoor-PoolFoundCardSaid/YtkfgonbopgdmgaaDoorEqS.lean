/- slices.Equal and slices.Clone at ints, strings and local times. -/
import Derived.Test.YtkfgonbopgdmgaaDoorLcB
import Derived.Test.YtkfgonbopgdmgaaDoorInt
import Derived.Lib.SliceRun
namespace Go.Proofs.YtkfgonbopgdmgaaDoor.Px
open Go.RowKit
open Tb

theorem wpList_append_eq {P : Program} {w : World} {ops : Array Oper} {rest : List Oper} {o : Oper} {a : Act} {Q : Exit → Act → World → Prop} (hgd : o.guard = none) (s x : Operand) (t : TypeId)
    (ho : o.op = .call { callee := .builtin .append, args := #[s, x], argTypes := #[t, t] }) (vs vx v' : Value) (w' : World) (hs : a.eval s = vs) (hx : a.eval x = vx) (hr : (Builtin.append_ #[t, t] o.type #[vs, vx]).run P w = .ok v' w')
    (h : wpList P ops Q rest (a.put o.dst v') w') : wpList P ops Q (o :: rest) a w := by
  refine wpList_plain hgd fun K hK => ?_
  unfold Oper.wp execOp
  simp only [ho, resolve, invoke, builtin, Sem.run_bind, Sem.run_pure, Result.andThen_ok, List.map_toArray, List.map_cons, List.map_nil, hs, hx, hr]
  exact hK _ _ h
theorem wpList_append_eq_g {P : Program} {w : World} {ops : Array Oper} {rest : List Oper} {o : Oper} {a : Act} {Q : Exit → Act → World → Prop} (hgd : Region.wanted o (yielded ops a.tmps) = true) (s x : Operand) (t : TypeId)
    (ho : o.op = .call { callee := .builtin .append, args := #[s, x], argTypes := #[t, t] }) (vs vx v' : Value) (w' : World) (hs : a.eval s = vs) (hx : a.eval x = vx) (hr : (Builtin.append_ #[t, t] o.type #[vs, vx]).run P w = .ok v' w')
    (h : wpList P ops Q rest (a.put o.dst v') w') : wpList P ops Q (o :: rest) a w := by
  refine wpList_step fun K hK => ?_
  rw [if_pos hgd]
  unfold Oper.wp execOp
  simp only [ho, resolve, invoke, builtin, Sem.run_bind, Sem.run_pure, Result.andThen_ok, List.map_toArray, List.map_cons, List.map_nil, hs, hx, hr]
  exact hK _ _ h
theorem ba_eq {a b : ByteArray} (h : a.toList = b.toList) : a = b := by
  rw [ByteArray.toList_eq, ByteArray.toList_eq] at h
  obtain ⟨⟨a⟩⟩ := a
  obtain ⟨⟨b⟩⟩ := b
  simpa using h
theorem bs_inj {a b : List UInt8} (h : bs a = bs b) : a = b := by
  have := congrArg (fun x : ByteArray => x.data.toList) h
  exact this
/-- two local times that are not equal, by '==' -/
theorem loc_ne {y l : Lc} (h : y ≠ l) : ∀ X : World, (if y.off = l.off then (if y.dst = l.dst then (if y.abbr.toList = l.abbr.toList then Result.ok (Next.value (Value.bool true)) X else Result.ok (Next.value (Value.bool false)) X) else Result.ok (Next.value (Value.bool false)) X) else Result.ok (Next.value (Value.bool false)) X) = Result.ok (Next.value (Value.bool false)) X := by
  intro X
  by_cases h1 : y.off = l.off
  case neg => rw [if_neg h1]
  rw [if_pos h1]
  by_cases h2 : y.dst = l.dst
  case neg => rw [if_neg h2]
  rw [if_pos h2]
  by_cases h3 : y.abbr.toList = l.abbr.toList
  case neg => rw [if_neg h3]
  exfalso
  apply h
  obtain ⟨_, _, _⟩ := y
  obtain ⟨_, _, _⟩ := l
  simp only [Lc.mk.injEq]
  exact ⟨h1, h2, ba_eq h3⟩
/-- .. by '!=' -/
theorem loc_ne2 {y l : Lc} (h : y ≠ l) : ∀ X : World, (if y.off = l.off then (if y.dst = l.dst then (if y.abbr.toList = l.abbr.toList then Result.ok (Next.value (Value.bool false)) X else Result.ok (Next.value (Value.bool true)) X) else Result.ok (Next.value (Value.bool true)) X) else Result.ok (Next.value (Value.bool true)) X) = Result.ok (Next.value (Value.bool true)) X := by
  intro X
  by_cases h1 : y.off = l.off
  case neg => rw [if_neg h1]
  rw [if_pos h1]
  by_cases h2 : y.dst = l.dst
  case neg => rw [if_neg h2]
  rw [if_pos h2]
  by_cases h3 : y.abbr.toList = l.abbr.toList
  case neg => rw [if_neg h3]
  exfalso
  apply h
  obtain ⟨_, _, _⟩ := y
  obtain ⟨_, _, _⟩ := l
  simp only [Lc.mk.injEq]
  exact ⟨h1, h2, ba_eq h3⟩
theorem take_eq_step {α : Type} {A B : List α} {i : Nat} {x y : α} (h : A.take i = B.take i) (hx : A[i]? = some x) (hy : B[i]? = some y) : A.take (i + 1) = B.take (i + 1) ↔ x = y := by
  rw [List.take_add_one, List.take_add_one, hx, hy, h]
  simp
theorem take_ne {α : Type} {A B : List α} {i : Nat} {x y : α} (hx : A[i]? = some x) (hy : B[i]? = some y) (h : x ≠ y) : A ≠ B := by
  intro e
  rw [e, hy] at hx
  exact h (Option.some.inj hx).symm
/-- all cells of a slice that is not empty -/
theorem SlV.all {W : World} {v : Value} {sz n : Nat} {xs : List Value} (h : SlV W v sz n xs) (h0 : 0 < n) : ∃ b o c, v = .slice (some ⟨b, o, none⟩) n c ∧ n ≤ c ∧ c ≤ maxLen ∧ b < W.heap.size ∧ ∀ (j : Nat) (u : Value), xs[j]? = some u → W.cell? ⟨b, o + j, none⟩ = some u := by
  obtain ⟨_, a, c, e, h1, h2, h3⟩ := h
  rcases h3 with h3 | ⟨b, o, ea, hb, hc⟩
  · omega
  · subst ea
    exact ⟨b, o, c, e, h1, h2, hb, hc⟩
theorem SlV.sl {W : World} {v : Value} {sz n : Nat} {xs : List Value} (h : SlV W v sz n xs) : ∃ a c, v = .slice a n c ∧ n ≤ c ∧ c ≤ maxLen := by
  obtain ⟨_, a, c, e, h1, h2, _⟩ := h
  exact ⟨a, c, e, h1, h2⟩
set_option maxHeartbeats 4000000 in
set_option maxRecDepth 100000 in
theorem equal_ints (A B : List Int) (va vb : Value) (W : World) (hA : SlV W va 1 A.length (ints A)) (hB : SlV W vb 1 B.length (ints B)) :
    Calls Tryd.prog 13 #[va, vb] W fun e w' => e = .returned (.bool (decide (A = B))) ∧ Below W.heap.size W w' := by
  obtain ⟨a, c, rfl, ha1, ha2⟩ := hA.sl
  obtain ⟨a', c', rfl, hb1, hb2⟩ := hB.sl
  have hAl := fun h0 => hA.all h0
  have hBl := fun h0 => hB.all h0
  obtain ⟨n, hn⟩ : ∃ n, A.length = n := ⟨_, rfl⟩
  obtain ⟨m, hm⟩ : ∃ m, B.length = m := ⟨_, rfl⟩
  rw [hn] at hAl ha1 ⊢
  rw [hm] at hBl hb1 ⊢
  unfold maxLen at ha2 hb2
  have HA := Lib.hid hAl
  have HB := Lib.hid hBl
  have HN := Lib.hid hn
  have HM := Lib.hid hm
  clear hA hB hAl hBl hn hm
  by_cases hnm : n = m
  case neg =>
    have hne : ¬ (n : Int) = (m : Int) := by omega
    have hd := Lib.hid (show decide (A = B) = false from decide_eq_false (fun e => hnm (by rw [← HN.out, ← HM.out, e])))
    clear hnm
    go_enter Tryd.func13, Tryd.ntmps13
    go_wp2_with fail
    refine bodyPost_ret (v := .bool false) (by simp [results, Tryd.results13, go_sem]) rfl ⟨?_, Below.refl _ _⟩
    rw [hd.out]
  subst hnm
  have hne : (n : Int) = (n : Int) := rfl
  go_enter Tryd.func13, Tryd.ntmps13
  go_wp2_with fail
  clear hne
  go_loopw [5, 13] (fun _ v13 wr => ∃ i : Nat, i ≤ n ∧ v13 = .int .i64 (i : Int) ∧ A.take i = B.take i ∧ Below W.heap.size W wr) (fun _ v13 _ => n - (intOf v13).toNat)
  case atStart => exact ⟨0, by omega, rfl, by simp, Below.refl _ _⟩
  case round =>
    obtain ⟨i, hi, rfl, htk, hbe⟩ := hrel
    have HT := Lib.hid htk
    have HBe := Lib.hid hbe
    clear htk hbe
    by_cases hlt : i < n
    · obtain ⟨b, o, c1, e1, _, _, hb, hcell⟩ := HA.out (by omega)
      simp only [Value.slice.injEq] at e1
      obtain ⟨rfl, _, rfl⟩ := e1
      obtain ⟨b', o', c2, e2, _, _, hb', hcell'⟩ := HB.out (by omega)
      simp only [Value.slice.injEq] at e2
      obtain ⟨rfl, _, rfl⟩ := e2
      obtain ⟨x, hx⟩ : ∃ x, A[i]? = some x := ⟨_, List.getElem?_eq_getElem (by rw [HN.out]; exact hlt)⟩
      obtain ⟨y, hy⟩ : ∃ y, B[i]? = some y := ⟨_, List.getElem?_eq_getElem (by rw [HM.out]; exact hlt)⟩
      have hst := Lib.hid (take_eq_step HT.out hx hy)
      have hno := Lib.hid (fun h : x ≠ y => take_ne hx hy h)
      have hbw : b < wr.heap.size := Nat.lt_of_lt_of_le hb HBe.out.size
      have hbw' : b' < wr.heap.size := Nat.lt_of_lt_of_le hb' HBe.out.size
      have k0 := (HBe.out.cell (p := ⟨b, o + i, none⟩) hb).trans (hcell i (.int .i64 x) (by unfold ints; rw [List.getElem?_map, hx]; rfl))
      have l0 := (HBe.out.cell (p := ⟨b', o' + i, none⟩) hb').trans (hcell' i (.int .i64 y) (by unfold ints; rw [List.getElem?_map, hy]; rfl))
      clear hcell hcell' hx hy
      by_cases he : x = y
      · subst he
        have ht := Lib.hid (hst.out.2 rfl)
        go_upto_region 6 with fail
        go_quiet (fail)
        go_wp2_with fail
        go_roundw
        case rel => exact ⟨i + 1, by omega, by go_num, ht.out, below_drewN HBe.out _⟩
        case measure => simp [intOf]; omega
      · have hd := Lib.hid (show decide (A = B) = false from decide_eq_false (hno.out he))
        go_upto_region 6 with fail
        go_quiet (fail)
        go_wp2_with fail
        refine bodyPost_ret (v := .bool false) (by simp [results, Tryd.results13, go_sem]) rfl ⟨?_, below_drewN HBe.out _⟩
        rw [hd.out]
    · obtain rfl : i = n := by omega
      have hd := Lib.hid (show decide (A = B) = true from decide_eq_true (by
        have := HT.out
        rwa [List.take_of_length_le (by rw [HN.out]; exact Nat.le_refl _), List.take_of_length_le (by rw [HM.out]; exact Nat.le_refl _)] at this))
      go_wp2_with fail
      refine bodyPost_ret (v := .bool true) (by simp [results, Tryd.results13, go_sem]) rfl ⟨?_, HBe.out⟩
      rw [hd.out]
set_option maxHeartbeats 4000000 in
set_option maxRecDepth 100000 in
theorem equal_strs (A B : List (List UInt8)) (va vb : Value) (W : World) (hA : SlV W va 1 A.length (A.map sv)) (hB : SlV W vb 1 B.length (B.map sv)) :
    Calls Tryd.prog 14 #[va, vb] W fun e w' => e = .returned (.bool (decide (A = B))) ∧ Below W.heap.size W w' := by
  obtain ⟨a, c, rfl, ha1, ha2⟩ := hA.sl
  obtain ⟨a', c', rfl, hb1, hb2⟩ := hB.sl
  have hAl := fun h0 => hA.all h0
  have hBl := fun h0 => hB.all h0
  obtain ⟨n, hn⟩ : ∃ n, A.length = n := ⟨_, rfl⟩
  obtain ⟨m, hm⟩ : ∃ m, B.length = m := ⟨_, rfl⟩
  rw [hn] at hAl ha1 ⊢
  rw [hm] at hBl hb1 ⊢
  unfold maxLen at ha2 hb2
  have HA := Lib.hid hAl
  have HB := Lib.hid hBl
  have HN := Lib.hid hn
  have HM := Lib.hid hm
  clear hA hB hAl hBl hn hm
  by_cases hnm : n = m
  case neg =>
    have hne : ¬ (n : Int) = (m : Int) := by omega
    have hd := Lib.hid (show decide (A = B) = false from decide_eq_false (fun e => hnm (by rw [← HN.out, ← HM.out, e])))
    clear hnm
    go_enter Tryd.func14, Tryd.ntmps14
    go_wp2_with fail
    refine bodyPost_ret (v := .bool false) (by simp [results, Tryd.results14, go_sem]) rfl ⟨?_, Below.refl _ _⟩
    rw [hd.out]
  subst hnm
  have hne : (n : Int) = (n : Int) := rfl
  go_enter Tryd.func14, Tryd.ntmps14
  go_wp2_with fail
  clear hne
  go_loopw [5, 13] (fun _ v13 wr => ∃ i : Nat, i ≤ n ∧ v13 = .int .i64 (i : Int) ∧ A.take i = B.take i ∧ Below W.heap.size W wr) (fun _ v13 _ => n - (intOf v13).toNat)
  case atStart => exact ⟨0, by omega, rfl, by simp, Below.refl _ _⟩
  case round =>
    obtain ⟨i, hi, rfl, htk, hbe⟩ := hrel
    have HT := Lib.hid htk
    have HBe := Lib.hid hbe
    clear htk hbe
    by_cases hlt : i < n
    · obtain ⟨b, o, c1, e1, _, _, hb, hcell⟩ := HA.out (by omega)
      simp only [Value.slice.injEq] at e1
      obtain ⟨rfl, _, rfl⟩ := e1
      obtain ⟨b', o', c2, e2, _, _, hb', hcell'⟩ := HB.out (by omega)
      simp only [Value.slice.injEq] at e2
      obtain ⟨rfl, _, rfl⟩ := e2
      obtain ⟨x, hx⟩ : ∃ x, A[i]? = some x := ⟨_, List.getElem?_eq_getElem (by rw [HN.out]; exact hlt)⟩
      obtain ⟨y, hy⟩ : ∃ y, B[i]? = some y := ⟨_, List.getElem?_eq_getElem (by rw [HM.out]; exact hlt)⟩
      have hst := Lib.hid (take_eq_step HT.out hx hy)
      have hno := Lib.hid (fun h : x ≠ y => take_ne hx hy h)
      have hbw : b < wr.heap.size := Nat.lt_of_lt_of_le hb HBe.out.size
      have hbw' : b' < wr.heap.size := Nat.lt_of_lt_of_le hb' HBe.out.size
      have k0 := (HBe.out.cell (p := ⟨b, o + i, none⟩) hb).trans (hcell i (.string (bs x)) (by rw [List.getElem?_map, hx]; rfl))
      have l0 := (HBe.out.cell (p := ⟨b', o' + i, none⟩) hb').trans (hcell' i (.string (bs y)) (by rw [List.getElem?_map, hy]; rfl))
      clear hcell hcell' hx hy
      by_cases he : x = y
      · subst he
        have ht := Lib.hid (hst.out.2 rfl)
        obtain ⟨sx, hsx⟩ : ∃ s, bs x = s := ⟨_, rfl⟩
        rw [hsx] at k0 l0
        clear hsx
        go_upto_region 6 with fail
        go_quiet (fail)
        go_wp2_with fail
        go_roundw
        case rel => exact ⟨i + 1, by omega, by go_num, ht.out, below_drewN HBe.out _⟩
        case measure => simp [intOf]; omega
      · have hd := Lib.hid (show decide (A = B) = false from decide_eq_false (hno.out he))
        have hq : ((bs x).toList == (bs y).toList) = false := by
          rw [beq_eq_false_iff_ne]
          exact fun e => he (bs_inj (ba_eq e))
        obtain ⟨sx, hsx⟩ : ∃ s, bs x = s := ⟨_, rfl⟩
        obtain ⟨sy, hsy⟩ : ∃ s, bs y = s := ⟨_, rfl⟩
        rw [hsx] at k0 hq
        rw [hsy] at l0 hq
        clear hsx hsy he
        go_upto_region 6 with fail
        go_quiet (fail)
        go_wp2_with fail
        refine bodyPost_ret (v := .bool false) (by simp [results, Tryd.results14, go_sem]) rfl ⟨?_, below_drewN HBe.out _⟩
        rw [hd.out]
    · obtain rfl : i = n := by omega
      have hd := Lib.hid (show decide (A = B) = true from decide_eq_true (by
        have := HT.out
        rwa [List.take_of_length_le (by rw [HN.out]; exact Nat.le_refl _), List.take_of_length_le (by rw [HM.out]; exact Nat.le_refl _)] at this))
      go_wp2_with fail
      refine bodyPost_ret (v := .bool true) (by simp [results, Tryd.results14, go_sem]) rfl ⟨?_, HBe.out⟩
      rw [hd.out]
set_option maxHeartbeats 4000000 in
set_option maxRecDepth 100000 in
theorem equal_lcs (A B : List Lc) (va vb : Value) (W : World) (hA : SlV W va 3 A.length (A.flatMap Lc.cells)) (hB : SlV W vb 3 B.length (B.flatMap Lc.cells)) :
    Calls Tryd.prog 19 #[va, vb] W fun e w' => e = .returned (.bool (decide (A = B))) ∧ Below W.heap.size W w' := by
  obtain ⟨a, c, rfl, ha1, ha2⟩ := hA.sl
  obtain ⟨a', c', rfl, hb1, hb2⟩ := hB.sl
  have hAl := fun h0 => hA.all h0
  have hBl := fun h0 => hB.all h0
  obtain ⟨n, hn⟩ : ∃ n, A.length = n := ⟨_, rfl⟩
  obtain ⟨m, hm⟩ : ∃ m, B.length = m := ⟨_, rfl⟩
  rw [hn] at hAl ha1 ⊢
  rw [hm] at hBl hb1 ⊢
  unfold maxLen at ha2 hb2
  have HA := Lib.hid hAl
  have HB := Lib.hid hBl
  have HN := Lib.hid hn
  have HM := Lib.hid hm
  clear hA hB hAl hBl hn hm
  by_cases hnm : n = m
  case neg =>
    have hne : ¬ (n : Int) = (m : Int) := by omega
    have hd := Lib.hid (show decide (A = B) = false from decide_eq_false (fun e => hnm (by rw [← HN.out, ← HM.out, e])))
    clear hnm
    go_enter Tryd.func19, Tryd.ntmps19
    go_wp2_with fail
    refine bodyPost_ret (v := .bool false) (by simp [results, Tryd.results19, go_sem]) rfl ⟨?_, Below.refl _ _⟩
    rw [hd.out]
  subst hnm
  have hne : (n : Int) = (n : Int) := rfl
  go_enter Tryd.func19, Tryd.ntmps19
  go_wp2_with fail
  clear hne
  go_loopw [5, 13] (fun _ v13 wr => ∃ i : Nat, i ≤ n ∧ v13 = .int .i64 (i : Int) ∧ A.take i = B.take i ∧ Below W.heap.size W wr) (fun _ v13 _ => n - (intOf v13).toNat)
  case atStart => exact ⟨0, by omega, rfl, by simp, Below.refl _ _⟩
  case round =>
    obtain ⟨i, hi, rfl, htk, hbe⟩ := hrel
    have HT := Lib.hid htk
    have HBe := Lib.hid hbe
    clear htk hbe
    by_cases hlt : i < n
    · obtain ⟨b, o, c1, e1, _, _, hb, hcell⟩ := HA.out (by omega)
      simp only [Value.slice.injEq] at e1
      obtain ⟨rfl, _, rfl⟩ := e1
      obtain ⟨b', o', c2, e2, _, _, hb', hcell'⟩ := HB.out (by omega)
      simp only [Value.slice.injEq] at e2
      obtain ⟨rfl, _, rfl⟩ := e2
      obtain ⟨x, hx⟩ : ∃ x, A[i]? = some x := ⟨_, List.getElem?_eq_getElem (by rw [HN.out]; exact hlt)⟩
      obtain ⟨y, hy⟩ : ∃ y, B[i]? = some y := ⟨_, List.getElem?_eq_getElem (by rw [HM.out]; exact hlt)⟩
      have hst := Lib.hid (take_eq_step HT.out hx hy)
      have hno := Lib.hid (fun h : x ≠ y => take_ne hx hy h)
      have hbw : b < wr.heap.size := Nat.lt_of_lt_of_le hb HBe.out.size
      have hbw' : b' < wr.heap.size := Nat.lt_of_lt_of_le hb' HBe.out.size
      obtain ⟨q0, q1, q2⟩ := lc_at A hx
      obtain ⟨r0, r1, r2⟩ := lc_at B hy
      have k0 := (HBe.out.cell (p := ⟨b, o + i * 3, none⟩) hb).trans (hcell _ _ q0)
      have k1 := (HBe.out.cell (p := ⟨b, o + i * 3 + 1, none⟩) hb).trans (hcell _ _ q1)
      have k2 := (HBe.out.cell (p := ⟨b, o + i * 3 + 2, none⟩) hb).trans (hcell _ _ q2)
      have l0 := (HBe.out.cell (p := ⟨b', o' + i * 3, none⟩) hb').trans (hcell' _ _ r0)
      have l1 := (HBe.out.cell (p := ⟨b', o' + i * 3 + 1, none⟩) hb').trans (hcell' _ _ r1)
      have l2 := (HBe.out.cell (p := ⟨b', o' + i * 3 + 2, none⟩) hb').trans (hcell' _ _ r2)
      clear hcell hcell' hx hy q0 q1 q2 r0 r1 r2
      by_cases he : x = y
      · subst he
        have ht := Lib.hid (hst.out.2 rfl)
        obtain ⟨xo, xd, xa⟩ := x
        dsimp only at k0 k1 k2 l0 l1 l2
        go_upto_region 6 with fail
        go_quiet (fail)
        go_wp2_with fail
        go_roundw
        case rel => exact ⟨i + 1, by omega, by go_num, ht.out, below_drewN HBe.out _⟩
        case measure => simp [intOf]; omega
      · have hd := Lib.hid (show decide (A = B) = false from decide_eq_false (hno.out he))
        have hq := loc_ne2 he
        obtain ⟨xo, xd, xa⟩ := x
        obtain ⟨yo, yd, ya⟩ := y
        dsimp only at k0 k1 k2 l0 l1 l2 hq
        clear he
        go_upto_region 6 with fail
        go_quiet (fail)
        go_wp2_with fail
        refine bodyPost_ret (v := .bool false) (by simp [results, Tryd.results19, go_sem]) rfl ⟨?_, below_drewN HBe.out _⟩
        rw [hd.out]
    · obtain rfl : i = n := by omega
      have hd := Lib.hid (show decide (A = B) = true from decide_eq_true (by
        have := HT.out
        rwa [List.take_of_length_le (by rw [HN.out]; exact Nat.le_refl _), List.take_of_length_le (by rw [HM.out]; exact Nat.le_refl _)] at this))
      go_wp2_with fail
      refine bodyPost_ret (v := .bool true) (by simp [results, Tryd.results19, go_sem]) rfl ⟨?_, HBe.out⟩
      rw [hd.out]
theorem one_strs {l : List (List UInt8)} : ∀ u ∈ l.map sv, u.oneCell' = true := by
  intro u hu
  obtain ⟨x, _, hx⟩ := List.mem_map.1 hu
  subst hx
  rfl
/-- a list appended to a slice that the call owns -/
theorem append_strs {L : List (Nat × Obj)} {R : List Rw} {v : Value} {n : Nat} {xs : List Value} {W X : World} (h : Kp L (⟨v, 9, 1, n, xs⟩ :: R) W X) (l : List (List UInt8)) (lv : Value) (hL : SlV X lv 1 l.length (l.map sv)) (hnil : ∀ c, lv = .slice none l.length c → c = 0) (hmax : n + l.length ≤ 1000000) :
    ∃ v' w1, (Builtin.append_ #[22, 22] 22 #[v, lv]).run Tryd.prog X = .ok v' w1 ∧ Kp L (⟨v', 9, 1, n + l.length, xs ++ l.map sv⟩ :: R) W w1 := by
  obtain ⟨i0, hi, hz0, hz1, hz2⟩ := info_parts' infoS
  obtain ⟨h0, a, c, rfl, h1, h2, h3⟩ := hL
  cases a with
  | none =>
    have hl : l.length = 0 := by
      rcases h3 with h3 | ⟨_, _, e, _⟩
      · exact h3
      · cases e
    have hc := hnil c rfl
    have hln : l = [] := List.length_eq_zero_iff.1 hl
    subst hln hc
    refine ⟨v, X, ?_, ?_⟩
    · exact run_append_owned_none (P := Tryd.prog) (w := X) W.heap.size 22 22 9 i0 1 Tryd.underlying22 hi v n xs (h.row 0 rfl)
    · simpa using h
  | some ad =>
    have hnews : ∀ (j : Nat) (u : Value), (l.map sv)[j]? = some u → X.cell? (ad.add j) = some u := by
      intro j u hu
      rcases h3 with h3 | ⟨b, o, e, _, hc⟩
      · have hln : l = [] := List.length_eq_zero_iff.1 h3
        subst hln
        simp at hu
      · cases e
        rw [WideShapes.add_plain]
        exact hc j u hu
    obtain ⟨v', w1, hr, hown, hgrow, _, hat⟩ := run_append_own_at (P := Tryd.prog) X W.heap.size 22 22 9 i0 (.string ⟨#[]⟩) 1 16 Tryd.underlying22 hi hz0 hz1 hz2 rfl (by decide) v n xs (h.row 0 rfl) ad l.length c (l.map sv) h0 hnews one_strs (by unfold maxLen; omega) (by omega) h.below.size
    exact ⟨v', w1, hr, h.append hown hgrow hat⟩
set_option maxRecDepth 100000 in
theorem clone_strs (l : List (List UInt8)) (v : Value) (W : World) (h : SlV W v 1 l.length (l.map sv)) (hnil : ∀ c, v = .slice none l.length c → c = 0) (hmax : l.length ≤ 1000000) :
    Calls Tryd.prog 10 #[v] W fun e w' => ∃ v', e = .returned v' ∧ Kp [] [⟨v', 9, 1, l.length, l.map sv⟩] W w' := by
  have h' := h
  obtain ⟨h0, a, c, rfl, h1, h2, h3⟩ := h'
  cases a with
  | none =>
    have hc := hnil c rfl
    have hl : l.length = 0 := by
      rcases h3 with h3 | ⟨_, _, e, _⟩
      · exact h3
      · cases e
    have hln : l = [] := List.length_eq_zero_iff.1 hl
    subst hln hc
    clear h hnil h0 h1 h2 h3
    have q22 : ∀ (w : World) (a : Option Addr) (n c n' c' : Nat), (binOp .eql 22 (.slice a n c) (.slice none n' c')).run Tryd.prog w = .ok (.bool a.isNone) w := fun w a n c n' c' => Lib.run_eql_slice_nil w _ _ a n c n' c' Tryd.underlying22
    go_enter Tryd.func10, Tryd.ntmps10
    go_wp2_with fail
    exact bodyPost_ret (v := .slice none 0 0) (by simp [results, Tryd.results10, go_sem]) rfl ⟨_, rfl, (Kp.start W).fresh 9 1⟩
  | some ad =>
    have K1 := Lib.hid (((Kp.start W).alloc (.cells #[] 9)).own_block 1 0 0 (by omega) (by unfold maxLen; omega) rfl)
    obtain ⟨v', w1, hr, hk⟩ := append_strs K1.out l (.slice (some ad) l.length c) (h.keep K1.out.below) hnil (by omega)
    have HR := Lib.hid hr
    have HK := Lib.hid hk
    clear h hnil h0 h1 h2 h3 hr hk
    have q22 : ∀ (w : World) (a : Option Addr) (n c n' c' : Nat), (binOp .eql 22 (.slice a n c) (.slice none n' c')).run Tryd.prog w = .ok (.bool a.isNone) w := fun w a n c n' c' => Lib.run_eql_slice_nil w _ _ a n c n' c' Tryd.underlying22
    go_enter Tryd.func10, Tryd.ntmps10
    go_wp2_with ((at_builtin; refine wpList_append_eq rfl _ _ 22 rfl _ _ v' w1 rfl rfl HR.out ?_))
    refine bodyPost_ret (v := v') (by simp [results, Tryd.results10, go_sem]) rfl ⟨_, rfl, ?_⟩
    have := HK.out
    rw [Nat.zero_add] at this
    exact this
theorem own_nil {X : World} {B sz n : Nat} {e : TypeId} {xs : List Value} {v : Value} (h : X.ownsRow B e sz v n xs) : ∀ c, v = .slice none n c → c = 0 := by
  intro c hc
  rcases own_cells h with ⟨_, e⟩ | ⟨g', cap', e, _⟩
  · rw [e] at hc
    simp only [Value.slice.injEq] at hc
    exact hc.2.2.symm
  · rw [e] at hc
    simp at hc
theorem one_lcs {l : List Lc} : ∀ u ∈ l.flatMap Lc.cells, u.oneCell' = true := by
  intro u hu
  obtain ⟨x, _, hx⟩ := List.mem_flatMap.1 hu
  simp only [Lc.cells, List.mem_cons, List.not_mem_nil, or_false] at hx
  rcases hx with rfl | rfl | rfl <;> rfl
/-- a list appended to a slice that the call owns -/
theorem append_lcs {L : List (Nat × Obj)} {R : List Rw} {v : Value} {n : Nat} {xs : List Value} {W X : World} (h : Kp L (⟨v, 36, 3, n, xs⟩ :: R) W X) (l : List Lc) (lv : Value) (hL : SlV X lv 3 l.length (l.flatMap Lc.cells)) (hnil : ∀ c, lv = .slice none l.length c → c = 0) (hmax : n + l.length ≤ 1000000) :
    ∃ v' w1, (Builtin.append_ #[32, 32] 32 #[v, lv]).run Tryd.prog X = .ok v' w1 ∧ Kp L (⟨v', 36, 3, n + l.length, xs ++ l.flatMap Lc.cells⟩ :: R) W w1 := by
  obtain ⟨i0, hi, hz0, hz1, hz2⟩ := info_parts' infoLc
  obtain ⟨h0, a, c, rfl, h1, h2, h3⟩ := hL
  cases a with
  | none =>
    have hl : l.length = 0 := by
      rcases h3 with h3 | ⟨_, _, e, _⟩
      · exact h3
      · cases e
    have hc := hnil c rfl
    have hln : l = [] := List.length_eq_zero_iff.1 hl
    subst hln hc
    refine ⟨v, X, ?_, ?_⟩
    · exact run_append_owned_none (P := Tryd.prog) (w := X) W.heap.size 32 32 36 i0 3 Tryd.underlying32 hi v n xs (h.row 0 rfl)
    · simpa using h
  | some ad =>
    have hnews : ∀ (j : Nat) (u : Value), (l.flatMap Lc.cells)[j]? = some u → X.cell? (ad.add j) = some u := by
      intro j u hu
      rcases h3 with h3 | ⟨b, o, e, _, hc⟩
      · have hln : l = [] := List.length_eq_zero_iff.1 h3
        subst hln
        simp at hu
      · cases e
        rw [WideShapes.add_plain]
        exact hc j u hu
    obtain ⟨v', w1, hr, hown, hgrow, _, hat⟩ := run_append_own_at (P := Tryd.prog) X W.heap.size 32 32 36 i0 (.agg #[.int .i64 0, .bool false, .string ⟨#[]⟩]) 3 32 Tryd.underlying32 hi hz0 hz1 hz2 rfl (by decide) v n xs (h.row 0 rfl) ad l.length c (l.flatMap Lc.cells) h0 hnews one_lcs (by unfold maxLen; omega) (by omega) h.below.size
    exact ⟨v', w1, hr, h.append hown hgrow hat⟩
set_option maxRecDepth 100000 in
theorem clone_lcs (l : List Lc) (v : Value) (W : World) (h : SlV W v 3 l.length (l.flatMap Lc.cells)) (hnil : ∀ c, v = .slice none l.length c → c = 0) (hmax : l.length ≤ 1000000) :
    Calls Tryd.prog 17 #[v] W fun e w' => ∃ v', e = .returned v' ∧ Kp [] [⟨v', 36, 3, l.length, l.flatMap Lc.cells⟩] W w' := by
  have h' := h
  obtain ⟨h0, a, c, rfl, h1, h2, h3⟩ := h'
  cases a with
  | none =>
    have hc := hnil c rfl
    have hl : l.length = 0 := by
      rcases h3 with h3 | ⟨_, _, e, _⟩
      · exact h3
      · cases e
    have hln : l = [] := List.length_eq_zero_iff.1 hl
    subst hln hc
    clear h hnil h0 h1 h2 h3
    have q22 : ∀ (w : World) (a : Option Addr) (n c n' c' : Nat), (binOp .eql 32 (.slice a n c) (.slice none n' c')).run Tryd.prog w = .ok (.bool a.isNone) w := fun w a n c n' c' => Lib.run_eql_slice_nil w _ _ a n c n' c' Tryd.underlying32
    go_enter Tryd.func17, Tryd.ntmps17
    go_wp2_with fail
    exact bodyPost_ret (v := .slice none 0 0) (by simp [results, Tryd.results17, go_sem]) rfl ⟨_, rfl, (Kp.start W).fresh 36 3⟩
  | some ad =>
    have K1 := Lib.hid (((Kp.start W).alloc (.cells #[] 36)).own_block 3 0 0 (by omega) (by unfold maxLen; omega) rfl)
    obtain ⟨v', w1, hr, hk⟩ := append_lcs K1.out l (.slice (some ad) l.length c) (h.keep K1.out.below) hnil (by omega)
    have HR := Lib.hid hr
    have HK := Lib.hid hk
    clear h hnil h0 h1 h2 h3 hr hk
    have q22 : ∀ (w : World) (a : Option Addr) (n c n' c' : Nat), (binOp .eql 32 (.slice a n c) (.slice none n' c')).run Tryd.prog w = .ok (.bool a.isNone) w := fun w a n c n' c' => Lib.run_eql_slice_nil w _ _ a n c n' c' Tryd.underlying32
    go_enter Tryd.func17, Tryd.ntmps17
    go_wp2_with ((at_builtin; refine wpList_append_eq rfl _ _ 32 rfl _ _ v' w1 rfl rfl HR.out ?_))
    refine bodyPost_ret (v := v') (by simp [results, Tryd.results17, go_sem]) rfl ⟨_, rfl, ?_⟩
    have := HK.out
    rw [Nat.zero_add] at this
    exact this
end Go.Proofs.YtkfgonbopgdmgaaDoor.Px
