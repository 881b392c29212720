/- slices.Insert at strings, of one string, into a slice that the call owns. -/
import Derived.Test.YtkfgonbopgdmgaaDoorShi
import Derived.Test.YtkfgonbopgdmgaaDoorEqS
namespace Go.Proofs.YtkfgonbopgdmgaaDoor.Px
open Go.RowKit

theorem Kp.known_or {L : List (Nat × Obj)} {R : List Rw} {v : Value} {e : TypeId} {sz n : Nat} {xs : List Value} {w X : World} (h : Kp L (⟨v, e, sz, n, xs⟩ :: R) w X) :
    (v = .slice none 0 0 ∧ n = 0) ∨ ∃ g cap cur, v = .slice (some ⟨g, 0, none⟩) n cap ∧ Kp ((g, .cells cur e (0, 0)) :: L) R w X ∧ n ≤ cap ∧ cap ≤ maxLen ∧ cur.size = cap * sz ∧ cur.toList.take (n * sz) = xs := by
  have hr : X.ownsRow w.heap.size e sz v n xs := h.row 0 rfl
  rcases hr.2 with h0 | ⟨g, cap, cur, rfl, hg, hb, h1, h2, h3, h4⟩
  · exact .inl h0
  · refine .inr ⟨g, cap, cur, rfl, ⟨⟨h.below, fun k b o hk => ?_, fun p hp => ?_, List.pairwise_cons.2 ⟨fun p hp => h.offL _ (List.mem_cons_self ..) g rfl p hp, h.known.desc⟩⟩, fun r hr => h.own r (List.mem_cons_of_mem _ hr), fun r hr g' hg' p hp => ?_, (List.pairwise_cons.1 h.offR).2⟩, h1, h2, h3, h4⟩
    · cases k with
      | zero =>
        simp only [List.getElem?_cons_zero, Option.some.injEq, Prod.mk.injEq] at hk
        obtain ⟨rfl, rfl⟩ := hk
        exact hb
      | succ k => exact h.at k hk
    · rcases List.mem_cons.1 hp with rfl | hp
      · exact hg
      · exact h.known.own p hp
    · rcases List.mem_cons.1 hp with rfl | hp
      · intro e
        dsimp only at e
        subst e
        exact (List.pairwise_cons.1 h.offR).1 r hr g rfl hg'
      · exact h.offL r (List.mem_cons_of_mem _ hr) g' hg' p hp
/-- a block behind stores of several cells -/
def setL (cur : Array Value) : Nat → List Value → Array Value
  | _, [] => cur
  | o, v :: r => setL (cur.setIfInBounds o v) (o + 1) r
theorem setL_size : ∀ (vs : List Value) (o : Nat) (cur : Array Value), (setL cur o vs).size = cur.size
  | [], _, _ => rfl
  | v :: r, o, cur => by rw [setL, setL_size r]; simp
theorem setL_list : ∀ (vs : List Value) (o : Nat) (cur : Array Value), o + vs.length ≤ cur.size → (setL cur o vs).toList = cur.toList.take o ++ vs ++ cur.toList.drop (o + vs.length)
  | [], o, cur, _ => by simp [setL]
  | v :: r, o, cur, h => by
    rw [List.length_cons] at h
    rw [setL, setL_list r (o + 1) _ (by simp; omega), Array.toList_setIfInBounds]
    have ho : o < cur.toList.length := by rw [Array.length_toList]; omega
    rw [List.set_eq_take_append_cons_drop, if_pos ho, List.length_cons]
    have h1 : (cur.toList.take o).length = o := by rw [List.length_take]; omega
    have e1 : (List.take o cur.toList ++ v :: List.drop (o + 1) cur.toList).take (o + 1) = cur.toList.take o ++ [v] := by
      rw [List.take_append, h1, Nat.add_sub_cancel_left, List.take_of_length_le (by omega)]
      rfl
    have e2 : (List.take o cur.toList ++ v :: List.drop (o + 1) cur.toList).drop (o + 1 + r.length) = cur.toList.drop (o + (r.length + 1)) := by
      rw [List.drop_append, h1, List.drop_eq_nil_of_le (by omega), List.nil_append, show o + 1 + r.length - o = r.length + 1 by omega, List.drop_succ_cons, List.drop_drop]
      congr 1
      omega
    rw [e1, e2]
    simp
theorem Kp.setCells {L : List (Nat × Obj)} {R : List Rw} {w : World} {g : Nat} {T : TypeId} : ∀ (vs : List Value) (o : Nat) (cur : Array Value) (X : World), Kp ((g, .cells cur T (0, 0)) :: L) R w X → Kp ((g, .cells (setL cur o vs) T (0, 0)) :: L) R w (X.setCells g o vs)
  | [], _, _, _, h => h
  | v :: r, o, cur, X, h => by
    rw [World.setCells, setL]
    exact Kp.setCells r (o + 1) _ _ (h.set 0 rfl o v rfl)
theorem zero_strs (k : Nat) : (Builtin.zeroCells (Value.string ⟨#[]⟩).cells k).size = k := by simp [Builtin.zeroCells, Value.cells]
/-- what stands in a row into which something is put -/
theorem ins_list {α : Type} {cur : List α} {D : List α} {x : α} {i n : Nat} (hn : D.length = n) (hi : i ≤ n) (hc : cur.take n = D) :
    (((cur.take (i + 1) ++ D.drop i ++ cur.drop (i + 1 + (n - i))).take i ++ [x] ++ (cur.take (i + 1) ++ D.drop i ++ cur.drop (i + 1 + (n - i))).drop (i + 1)).take (n + 1)) = D.take i ++ x :: D.drop i ∨ cur.length < i + 1 := by
  by_cases hl : cur.length < i + 1
  · exact .inr hl
  left
  have h1 : (cur.take (i + 1)).length = i + 1 := by rw [List.length_take]; omega
  have e1 : (cur.take (i + 1) ++ D.drop i ++ cur.drop (i + 1 + (n - i))).take i = D.take i := by
    rw [List.append_assoc, List.take_append_of_le_length (by omega), List.take_take, ← hc, List.take_take]
    congr 1
    omega
  have e2 : (cur.take (i + 1) ++ D.drop i ++ cur.drop (i + 1 + (n - i))).drop (i + 1) = D.drop i ++ cur.drop (i + 1 + (n - i)) := by
    rw [List.append_assoc, List.drop_append, h1, List.drop_eq_nil_of_le (by omega), Nat.sub_self]
    rfl
  rw [e1, e2]
  have h2 : (D.take i).length = i := by rw [List.length_take]; omega
  have h3 : (D.drop i).length = n - i := by rw [List.length_drop]; omega
  rw [List.append_assoc, List.take_append, h2, List.take_of_length_le (by omega)]
  congr 1
  rw [show n + 1 - i = (n - i) + 1 by omega]
  show x :: ((([] : List α) ++ (D.drop i ++ cur.drop (i + 1 + (n - i)))).take (n - i)) = _
  rw [List.nil_append, List.take_append_of_le_length (by omega), List.take_of_length_le (by omega)]
set_option maxHeartbeats 2000000 in
theorem insert_any {M : List (Nat × Obj)} {R : List Rw} {W w : World} {v : Value} {vb : Nat} (D : List (List UInt8)) (x : List UInt8) (i : Nat)
    (h : Kp ((vb, .cells #[.string (bs x)] 9 (0, 0)) :: M) (⟨v, 9, 1, D.length, D.map sv⟩ :: R) W w) (hi : i ≤ D.length) (hmax : D.length ≤ 1000000) :
    Calls Tryd.prog 30 #[v, .int .i64 (i : Int), .slice (some ⟨vb, 0, none⟩) 1 1] w fun e w' => ∃ v', e = .returned v' ∧ StrV w' v' (D.take i ++ x :: D.drop i) ∧ Below W.heap.size W w' := by
  obtain ⟨n, hn⟩ : ∃ n, D.length = n := ⟨_, rfl⟩
  have hml : (D.map sv).length = n := by rw [List.length_map, hn]
  have hout : (D.take i ++ x :: D.drop i).length = n + 1 := by rw [List.length_append, List.length_take, List.length_cons, List.length_drop]; omega
  have hmap : (D.take i ++ x :: D.drop i).map sv = (D.map sv).take i ++ sv x :: (D.map sv).drop i := by rw [List.map_append, List.map_cons, List.map_take, List.map_drop]
  have hvb := h.at 0 rfl
  have hvs : ∀ j u, ([sv x] : List Value)[j]? = some u → w.cell? ⟨vb, 0 + j, none⟩ = some u := fun j u hu => by
    rw [Nat.zero_add, cells_at hvb]
    match j, hu with
    | 0, hu => exact hu
    | j + 1, hu => simp at hu
  have h1v : ∀ u ∈ ([sv x] : List Value), u.oneCell' = true := fun u hu => by rw [List.mem_singleton.1 hu]; rfl
  have h1c : ∀ u ∈ D.map sv, u.oneCell' = true := one_strs
  rw [hn] at h hi hmax
  rcases h.known_or with ⟨rfl, rfl⟩ | ⟨g, cap, cur, rfl, hk, hc1, hc2, hc3, hc4⟩
  · have hi0 : i = 0 := by omega
    subst hi0
    have hD : D = [] := List.length_eq_zero_iff.1 hn
    subst hD
    refine (Any2.slices_Insert_string_end_grow (ρ := insRen) insLays none 0 0 vb 0 1 1 [] [sv x] w (by omega) (by omega) (by omega) (by omega) rfl rfl (fun _ => rfl) (fun a e => by cases e) hvs h1v).mono ?_
    rintro e w' ⟨rfl, rfl⟩
    have K2 := (h.drew.alloc (.cells (([] ++ [sv x] : List Value).toArray ++ Builtin.zeroCells (Value.string ⟨#[]⟩).cells (grownCap w (0 + 1) 0 9 - (0 + 1))) 9))
    have hge : 0 + 1 ≤ grownCap w (0 + 1) 0 9 := grownCap_ge w _ _ _
    have hle := grownCap_le_maxLen w (0 + 1) 0 9 (by unfold maxLen; omega)
    refine ⟨_, rfl, ?_, K2.below⟩
    have := SlV.of_block (sz := 1) (n := 0 + 1) (c := grownCap w (0 + 1) 0 9) (K2.at 0 rfl) hge hle (by simp [zero_strs])
    unfold StrV
    rw [hout, hmap]
    have e : (([] ++ [sv x] : List Value).toArray ++ Builtin.zeroCells (Value.string ⟨#[]⟩).cells (grownCap w (0 + 1) 0 9 - (0 + 1))).toList.take ((0 + 1) * 1) = [sv x] := by
      rw [Array.toList_append]
      rfl
    rw [e] at this
    exact this
  · rw [Nat.mul_one] at hc3 hc4
    have hcell : ∀ j u, (D.map sv)[j]? = some u → w.cell? ⟨g, 0 + j, none⟩ = some u := fun j u hu => by
      rw [Nat.zero_add, cells_at (hk.at 0 rfl)]
      rw [← hc4, List.getElem?_take] at hu
      split at hu
      · simpa using hu
      · cases hu
    have hsp : ∀ j, j < cap → (w.cell? ⟨g, 0 + j, none⟩).isSome = true := fun j hj => by
      rw [Nat.zero_add, cells_at (hk.at 0 rfl), Array.getElem?_eq_getElem (by omega)]
      rfl
    have hfz : ∀ j, w.frozen? ⟨g, j, none⟩ = false := fun j => free_at (hk.at 0 rfl) j
    have hvg : vb ≠ g := hk.known.other (j := 1) (k := 0) rfl rfl (by omega)
    have hcl : cur.toList.length = cap := by rw [Array.length_toList]; exact hc3
    unfold maxLen at hc2
    by_cases hin : i = n
    · subst hin
      have hdt : (D.map sv).take i = D.map sv := List.take_of_length_le (by omega)
      have hdd : (D.map sv).drop i = [] := List.drop_eq_nil_of_le (by omega)
      rw [hdt, hdd] at hmap
      by_cases hroom : i + 1 ≤ cap
      · refine (Any2.slices_Insert_string_end_room (ρ := insRen) insLays g 0 i cap vb 0 1 1 [sv x] w (by omega) hroom (by omega) rfl (fun j hj => by rw [Nat.add_assoc]; exact hsp _ (by omega)) (fun j _ => hfz _) hvs h1v).mono ?_
        rintro e w' ⟨rfl, rfl⟩
        have K2 := Kp.setCells [sv x] (0 + i) cur w hk
        refine ⟨_, rfl, ?_, K2.below⟩
        have := SlV.of_block (sz := 1) (n := i + 1) (c := cap) (K2.at 0 rfl) hroom (by unfold maxLen; omega) (by rw [setL_size]; omega)
        unfold StrV
        rw [hout, hmap]
        rw [setL_list _ _ _ (by simp; omega), Nat.zero_add, Nat.mul_one, hc4] at this
        have e : (List.map sv D ++ [sv x] ++ List.drop (i + [sv x].length) cur.toList).take (i + 1) = D.map sv ++ [sv x] := by
          rw [List.take_append_of_le_length (by rw [List.length_append, hml]; simp), List.take_of_length_le (by rw [List.length_append, hml]; simp)]
        rw [e] at this
        simp only [Nat.zero_add]
        exact this
      · have hb : (i + 1) * 16 ≤ 140737488355328 := by omega
        refine (Any2.slices_Insert_string_end_grow (ρ := insRen) insLays (some ⟨g, 0, none⟩) i cap vb 0 1 1 (D.map sv) [sv x] w (by omega) hc1 (by omega) hb hml rfl (fun e => by cases e) (fun a e j u hu => by cases e; rw [WideShapes.add_plain]; exact hcell j u hu) hvs h1v).mono ?_
        rintro e w' ⟨rfl, rfl⟩
        have K2 := (hk.drew.alloc (.cells ((D.map sv ++ [sv x]).toArray ++ Builtin.zeroCells (Value.string ⟨#[]⟩).cells (grownCap w (i + 1) cap 9 - (i + 1))) 9))
        have hge : i + 1 ≤ grownCap w (i + 1) cap 9 := grownCap_ge w _ _ _
        have hle := grownCap_le_maxLen w (i + 1) cap 9 (by unfold maxLen; omega)
        refine ⟨_, rfl, ?_, K2.below⟩
        have := SlV.of_block (sz := 1) (n := i + 1) (c := grownCap w (i + 1) cap 9) (K2.at 0 rfl) hge hle (by simp [zero_strs, hn])
        unfold StrV
        rw [hout, hmap]
        have e : ((D.map sv ++ [sv x]).toArray ++ Builtin.zeroCells (Value.string ⟨#[]⟩).cells (grownCap w (i + 1) cap 9 - (i + 1))).toList.take ((i + 1) * 1) = D.map sv ++ [sv x] := by
          rw [Array.toList_append, Nat.mul_one, List.take_append_of_le_length (by rw [List.length_append, hml]; simp), List.take_of_length_le (by rw [List.length_append, hml]; simp)]
        rw [e] at this
        exact this
    · have hilt : i < n := by omega
      by_cases hroom : n + 1 ≤ cap
      · refine (Any2.slices_Insert_string_shift (ρ := insRen) insLays g 0 n cap i vb 0 1 1 (D.map sv) [sv x] w hilt (by omega) hroom (by omega) hvg hml rfl hcell (fun j hj => hsp j (by omega)) (fun j _ => hfz _) hvs h1c h1v 9 9 1 cap (by unfold World.shape?; rw [hvb]; rfl) (by unfold World.shape?; rw [hk.at 0 rfl]; exact congrArg some (Prod.ext rfl hc3)) (by omega) (free_at hvb _) (free_at hvb _)).mono ?_
        rintro e w' ⟨rfl, rfl⟩
        have K2 := Kp.setCells [sv x] (0 + i) _ _ (Kp.setCells ((D.map sv).drop i) (0 + (i + 1)) cur _ hk.drew)
        refine ⟨_, rfl, ?_, K2.below⟩
        have := SlV.of_block (sz := 1) (n := n + 1) (c := cap) (K2.at 0 rfl) hroom (by unfold maxLen; omega) (by rw [setL_size, setL_size]; omega)
        unfold StrV
        rw [hout, hmap]
        have hdl : ((D.map sv).drop i).length = n - i := by rw [List.length_drop, hml]
        rw [setL_list _ _ _ (by rw [setL_size]; simp; omega), setL_list _ _ _ (by rw [hdl]; omega), Nat.zero_add, Nat.zero_add, Nat.mul_one, hdl] at this
        rcases ins_list (cur := cur.toList) (D := D.map sv) (x := sv x) hml hi hc4 with e | e
        · rw [show ([sv x] : List Value).length = 1 from rfl] at this
          rw [e] at this
          simp only [Nat.zero_add]
          exact this
        · omega
      · have hb : (n + 1) * 16 ≤ 140737488355328 := by omega
        refine (Any2.slices_Insert_string_grow (ρ := insRen) insLays g 0 n cap i vb 0 1 1 (D.map sv) [sv x] w hilt (by omega) hc1 (by omega) hb hml rfl hcell hvs h1c h1v).mono ?_
        rintro e w' ⟨rfl, rfl⟩
        have hge : n + 1 ≤ grownCap w (n + 1) cap 9 := grownCap_ge w _ _ _
        have hle := grownCap_le_maxLen w (n + 1) cap 9 (by unfold maxLen; omega)
        obtain ⟨ROW, hROW⟩ : ∃ ROW : Array Value, ((D.map sv).take i).toArray ++ Builtin.zeroCells (Value.string ⟨#[]⟩).cells (n + 1 - i) ++ Builtin.zeroCells (Value.string ⟨#[]⟩).cells (grownCap w (n + 1) cap 9 - (n + 1)) = ROW := ⟨_, rfl⟩
        have hRs : ROW.size = grownCap w (n + 1) cap 9 := by
          rw [← hROW, Array.size_append, Array.size_append, zero_strs, zero_strs]
          simp only [List.size_toArray, List.length_take, hml]
          omega
        have hRt : ROW.toList.take i = (D.map sv).take i := by
          rw [← hROW, Array.toList_append, Array.toList_append, List.append_assoc, List.take_append_of_le_length (by rw [List.length_take]; omega), List.take_of_length_le (by rw [List.length_take]; omega)]
        have K2 := (Kp.setCells ((D.map sv).drop i) (i + 1) _ _ (Kp.setCells [sv x] i _ _ (hk.alloc (.cells ROW 9)).drew).drew)
        refine ⟨_, rfl, ?_, ?_⟩
        · unfold StrV
          rw [hout, hmap]
          have := SlV.of_block (sz := 1) (n := n + 1) (c := grownCap w (n + 1) cap 9) (K2.at 0 rfl) hge hle (by rw [setL_size, setL_size]; omega)
          have hdl : ((D.map sv).drop i).length = n - i := by rw [List.length_drop, hml]
          rw [setL_list _ _ _ (by rw [setL_size, hdl]; omega), setL_list _ _ _ (by simp; omega), Nat.mul_one, hdl] at this
          have e : (List.take (i + 1) (List.take i ROW.toList ++ [sv x] ++ List.drop (i + [sv x].length) ROW.toList) ++ List.drop i (List.map sv D) ++ List.drop (i + 1 + (n - i)) (List.take i ROW.toList ++ [sv x] ++ List.drop (i + [sv x].length) ROW.toList)).take (n + 1) = (D.map sv).take i ++ sv x :: (D.map sv).drop i := by
            have hl1 : (List.take i ROW.toList ++ [sv x]).length = i + 1 := by rw [List.length_append, hRt, List.length_take, hml]; simp; omega
            rw [List.take_append_of_le_length (by rw [List.length_append, hdl, List.length_take, List.length_append, hl1]; omega)]
            rw [show List.take (i + 1) (List.take i ROW.toList ++ [sv x] ++ List.drop (i + [sv x].length) ROW.toList) = List.take i ROW.toList ++ [sv x] by rw [List.take_append_of_le_length (by omega), List.take_of_length_le (by omega)]]
            rw [List.take_of_length_le (by rw [List.length_append, hl1, hdl]; omega), hRt]
            simp
          rw [e] at this
          subst hROW
          exact this
        · subst hROW
          exact K2.below
end Go.Proofs.YtkfgonbopgdmgaaDoor.Px
