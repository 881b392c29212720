/- What the laws PoolOrder and PoolFound want: strings of letters can stand in a pool; the parts of a pool; slices.Reverse; sub-slices. -/
import Derived.Test.YtkfgonbopgdmgaaDoorWkE
import Derived.Test.YtkfgonbopgdmgaaDoorPoQ
import Derived.Test.YtkfgonbopgdmgaaDoorSpA
import Derived.Test.YtkfgonbopgdmgaaDoorSheli
namespace Go.Proofs.YtkfgonbopgdmgaaDoor.Px
open Go.RowKit
open Go.ChangeShapes Go.WideShapes
open Po St Tb

theorem alpha_fine : ∀ c ∈ alphaL, c ≠ 0 := by decide
theorem lett_fine (r : List UInt8) (i : Nat) : lettAt r i ≠ 0 := by
  unfold lettAt
  cases h : alphaL[(lettC r i).toNat % 52]? with
  | none => decide
  | some c => exact alpha_fine c (List.mem_of_getElem? h)
theorem letters_good (r : List UInt8) : 3 ≤ (lettersOf r 3 6).length ∧ (0 : UInt8) ∉ lettersOf r 3 6 := by
  unfold lettersOf lettN
  refine ⟨by rw [List.length_map, List.length_range]; omega, fun h => ?_⟩
  obtain ⟨i, _, hi⟩ := List.mem_map.1 h
  exact lett_fine r i hi
theorem lettersF_good (R : List (List UInt8)) : GoodP (lettersF R) := by
  intro s hs
  unfold lettersF at hs
  obtain ⟨r, _, rfl⟩ := List.mem_map.1 hs
  have := letters_good r
  exact ⟨by omega, this.2⟩
/-- the pool of the same strings is as long -/
theorem same_res {l m : List (List UInt8)} (hl : GoodP l) (he : ∀ x, x ∈ l ↔ x ∈ m) : abbrsE m = abbrsE l ∧ (abbrsS m).length = (abbrsS l).length ∧ (abbrsE l = 0 → (abbrsA m).length = m.length) := by
  have hm : GoodP m := fun s hs => hl s ((he s).2 hs)
  have hlen := pool_len_same hl he
  have h1 : abbrsE m = abbrsE l := by unfold abbrsE; rw [good_bad hl, good_bad hm, hlen]
  refine ⟨h1, ?_, fun h => ?_⟩
  · unfold abbrsS
    rw [h1]
    split
    · exact hlen.symm
    · rfl
  · unfold abbrsA
    rw [h1, h, if_pos rfl, List.length_map]
theorem split_flat : ∀ (A : List (List UInt8)) (a : List UInt8), (∀ x ∈ A, (0 : UInt8) ∉ x) → (0 : UInt8) ∉ a → splitL 0 (A.flatMap w ++ a) = A ++ [a]
  | [], a, _, ha => splitL_no 0 a ha
  | x :: A, a, h, ha => by
    rw [List.flatMap_cons]
    unfold w
    rw [List.append_assoc, List.append_assoc, List.singleton_append, splitL_join, splitL_no 0 x (h x (List.mem_cons_self ..))]
    have := split_flat A a (fun y hy => h y (List.mem_cons_of_mem _ hy)) ha
    unfold w at this
    rw [this]
    rfl
/-- the parts of a pool -/
def partsP (l : List (List UInt8)) : List (List UInt8) := splitL 0 (Lib.trimSuffix (abbrsS l) [0])
theorem parts_sorted {l : List (List UInt8)} (h : GoodP l) : (partsP l).Pairwise (fun x y => y.length ≤ x.length) := by
  unfold partsP
  by_cases hE : abbrsE l = 0
  · have hS : abbrsS l = (inPool l).flatMap w := by unfold abbrsS; rw [if_pos hE, pool_is h]
    rw [hS]
    have hA : ∀ x ∈ inPool l, (0 : UInt8) ∉ x := fun x hx => (h x ((ordL_mem h x).1 (chosen_sub _ x hx))).2
    have hs := inPool_sorted l
    cases hq : inPool l with
    | nil => exact List.pairwise_singleton _ _
    | cons a r =>
      rw [← hq]
      have hne : inPool l ≠ [] := by rw [hq]; simp
      have e := List.dropLast_concat_getLast hne
      obtain ⟨A', a', hAA⟩ : ∃ A' a', inPool l = A' ++ [a'] := ⟨_, _, e.symm⟩
      rw [hAA] at hA hs ⊢
      have h1 : Lib.trimSuffix ((A' ++ [a']).flatMap w) [0] = A'.flatMap w ++ a' := by
        rw [List.flatMap_append, List.flatMap_singleton]
        unfold w Lib.trimSuffix Lib.hasSuffix
        rw [if_pos (by rw [List.isSuffixOf_iff_suffix, ← List.append_assoc]; exact List.suffix_append _ _), ← List.append_assoc]
        exact List.take_left' (by simp only [List.length_append, List.length_singleton]; omega)
      rw [h1, split_flat A' a' (fun x hx => hA x (List.mem_append_left _ hx)) (hA a' (by simp))]
      exact hs
  · have hS : abbrsS l = [] := by unfold abbrsS; rw [if_neg hE]
    rw [hS]
    exact List.pairwise_singleton _ _
theorem splitL_length (c : UInt8) : ∀ l : List UInt8, (splitL c l).length ≤ l.length + 1
  | [] => Nat.le_refl _
  | b :: r => by
    have := splitL_length c r
    simp only [splitL]
    split
    · simp; omega
    · split
      · simp
      · rename_i h1; rw [h1] at this; simp at this ⊢; omega
theorem abbrsS_len (l : List (List UInt8)) : (abbrsS l).length ≤ 255 := by
  unfold abbrsS
  split
  · rename_i h
    unfold abbrsE at h
    split at h
    · cases h
    · split at h
      · cases h
      · omega
  · simp
theorem parts_len (l : List (List UInt8)) : (partsP l).length ≤ 256 := by
  have h1 := splitL_length 0 (Lib.trimSuffix (abbrsS l) [0])
  have h2 : (Lib.trimSuffix (abbrsS l) [0]).length ≤ (abbrsS l).length := by
    unfold Lib.trimSuffix
    split
    · rw [List.length_take]; omega
    · exact Nat.le_refl _
  have := abbrsS_len l
  unfold partsP
  omega
theorem strsOf_list (D : List (List UInt8)) : Lib.strsOf (fun i => bs (D.getD i [])) D.length = D := by
  unfold Lib.strsOf
  apply List.ext_getElem
  · simp
  · intro i h1 h2
    simp [bs, List.getD, List.getElem?_eq_getElem h2]
theorem reverse_any {M : List (Nat × Obj)} {R : List Rw} {W w : World} {v : Value} (D : List (List UInt8)) (h : Kp M (⟨v, 9, 1, D.length, D.map sv⟩ :: R) W w) (h0 : 0 < D.length) (hmax : D.length ≤ 1000000) :
    Calls Tryd.prog 27 #[v] w fun e w' => e = .returned (.tuple #[]) ∧ Kp M (⟨v, 9, 1, D.length, D.reverse.map sv⟩ :: R) W w' := by
  obtain ⟨g, cap, cur, rfl, hk, h1, h2, h3, h4⟩ := h.known_of h0
  rw [Nat.mul_one] at h3 h4
  have hcell : ∀ i, i < D.length → w.cell? ⟨g, 0 + i, none⟩ = some (.string (bs (D.getD i []))) := fun i hi => by
    rw [Nat.zero_add, cells_at (hk.at 0 rfl)]
    have : (cur.toList.take D.length)[i]? = some (.string (bs (D.getD i []))) := by
      rw [h4, List.getElem?_map, List.getElem?_eq_getElem hi]
      simp [sv, List.getD, List.getElem?_eq_getElem hi]
    rw [List.getElem?_take, if_pos hi] at this
    simpa using this
  refine (Tryd.slices_Reverse_string_cells g 0 D.length cap (fun i => bs (D.getD i [])) w (by omega) hcell (fun j _ => free_at (hk.at 0 rfl) _)).mono ?_
  rintro e w' ⟨rfl, q, rfl⟩
  refine ⟨rfl, ?_⟩
  rw [strsOf_list]
  have K1 : Kp ((g, .cells cur 9 (0, 0)) :: M) R W (w.drewN q) := hk.call (below_drewN (Below.refl _ _) _) rfl rfl rfl rfl
  have K2 := Kp.setCells (D.reverse.map encStr) 0 cur (w.drewN q) K1
  have hl : (D.reverse.map encStr).length = D.length := by rw [List.length_map, List.length_reverse]
  have K3 := K2.own_block 1 D.length cap h1 h2 (by rw [setL_size]; omega)
  have e : (setL cur 0 (D.reverse.map encStr)).toList.take (D.length * 1) = D.reverse.map sv := by
    rw [setL_list _ _ _ (by rw [hl]; omega), List.take_zero, List.nil_append, Nat.mul_one, List.take_append_of_le_length (by rw [hl]; exact Nat.le_refl _), List.take_of_length_le (by rw [hl]; exact Nat.le_refl _)]
    rfl
  rw [e] at K3
  exact K3
/-- a part of a slice in memory -/
theorem SlV.part {W : World} {n c i j : Nat} {xs : List Value} {a : Addr} (h : SlV W (.slice (some a) n c) 1 n xs) (hij : i ≤ j) (hj : j ≤ n) (hn : 0 < n) : SlV W (.slice (some (a.add i)) (j - i) (c - i)) 1 (j - i) ((xs.drop i).take (j - i)) := by
  obtain ⟨h0, a', c', e, h1, h2, h3⟩ := h
  simp only [Value.slice.injEq] at e
  obtain ⟨rfl, _, rfl⟩ := e
  rw [Nat.mul_one] at h0
  refine ⟨by rw [List.length_take, List.length_drop]; omega, some (a.add i), c - i, rfl, by omega, by omega, ?_⟩
  rcases h3 with h3 | ⟨b, o, ea, hb, hc⟩
  · omega
  · right
    cases ea
    refine ⟨b, o + i, by rw [WideShapes.add_plain], hb, fun k u hu => ?_⟩
    rw [List.getElem?_take] at hu
    split at hu
    · rw [List.getElem?_drop] at hu
      rw [Nat.add_assoc]
      exact hc (i + k) u hu
    · cases hu
/-- one step of a region that draws: append by an equation of its run -/
theorem step_append_eq {P : Program} {ops : Array Oper} {o : Oper} {a : Act} {w : World} {K : Act → World → Prop} {Q : Exit → Act → World → Prop} {E : Prop} (hg : o.guard = none) (s x : Operand) (t : TypeId)
    (ho : o.op = .call { callee := .builtin .append, args := #[s, x], argTypes := #[t, t] }) (vs vx v' : Value) (w' : World) (hs : a.eval s = vs) (hx : a.eval x = vx) (hr : (Builtin.append_ #[t, t] o.type #[vs, vx]).run P w = .ok v' w') (hK : K (a.put o.dst v') w') :
    if Region.wanted o (yielded ops a.tmps) = true then Oper.wp P o a w K Q else E := by
  have hw : Region.wanted o (yielded ops a.tmps) = true := by simp [Region.wanted, hg]
  rw [if_pos hw]
  unfold Oper.wp execOp
  simp only [ho, resolve, invoke, builtin, Sem.run_bind, Sem.run_pure, Result.andThen_ok, List.map_toArray, List.map_cons, List.map_nil, hs, hx, hr]
  exact hK
end Go.Proofs.YtkfgonbopgdmgaaDoor.Px
