/- Stable sorting, plain: exchanges in rows, the split of two sorted rows, blocks. No program in sight. -/
import Derived.Test.YtdeompnaojiajaaDoorStP
import Derived.Sort.Defs
namespace Go.Proofs.YtdeompnaojiajaaDoor.St
open Go.Sort

section
variable {α : Type} [Inhabited α]
theorem get_mid {d : Array α} {P Q : List α} {x : α} {i : Nat} (h : d.toList = P ++ x :: Q) (hi : P.length = i) : i < d.size ∧ d[i]! = x := by
  have hs : d.size = P.length + (Q.length + 1) := by rw [← Array.length_toList, h, List.length_append, List.length_cons]
  have hlt : i < d.size := by omega
  refine ⟨hlt, ?_⟩
  rw [getElem!_pos d i hlt, ← Array.getElem_toList]
  have : d.toList[i]? = some x := by rw [h, List.getElem?_append_right (by omega), hi, Nat.sub_self]; rfl
  have h2 : d.toList[i]? = some d.toList[i] := List.getElem?_eq_getElem (by simpa using hlt)
  rw [this] at h2
  exact (Option.some.inj h2).symm
theorem swp_list {d : Array α} {P M Q : List α} {x y : α} {i j : Nat} (h : d.toList = P ++ x :: (M ++ y :: Q)) (hi : P.length = i) (hj : P.length + 1 + M.length = j) : (swp d i j).toList = P ++ y :: (M ++ x :: Q) := by
  obtain ⟨_, hx⟩ := get_mid h hi
  have h' : d.toList = (P ++ x :: M) ++ y :: Q := by rw [h]; simp
  obtain ⟨_, hy⟩ := get_mid (i := j) h' (by rw [List.length_append, List.length_cons]; omega)
  unfold swp
  rw [hx, hy, Array.toList_setIfInBounds, Array.toList_setIfInBounds, h, List.set_append_right _ _ (by omega), hi, Nat.sub_self, List.set_cons_zero, List.set_append_right _ _ (by omega)]
  have e : j - P.length = M.length + 1 := by omega
  rw [e, List.set_cons_succ, List.set_append_right _ _ (Nat.le_refl _), Nat.sub_self, List.set_cons_zero]
theorem swp_size (d : Array α) (i j : Nat) : (swp d i j).size = d.size := by unfold swp; simp
/-- one step of an exchange of two rows of the same length -/
theorem swap_step {d : Array α} {P X M Y Q : List α} {i n a b : Nat} (h : d.toList = P ++ (Y.take i ++ X.drop i) ++ M ++ (X.take i ++ Y.drop i) ++ Q) (hX : X.length = n) (hY : Y.length = n) (hi : i < n) (ha : P.length = a) (hb : P.length + n + M.length = b) :
    a + i < d.size ∧ b + i < d.size ∧ (swp d (a + i) (b + i)).toList = P ++ (Y.take (i + 1) ++ X.drop (i + 1)) ++ M ++ (X.take (i + 1) ++ Y.drop (i + 1)) ++ Q := by
  have h1 : X.drop i = X[i]'(by omega) :: X.drop (i + 1) := List.drop_eq_getElem_cons (by omega)
  have h2 : Y.drop i = Y[i]'(by omega) :: Y.drop (i + 1) := List.drop_eq_getElem_cons (by omega)
  have h3 : X.take (i + 1) = X.take i ++ [X[i]'(by omega)] := List.take_succ_eq_append_getElem (by omega)
  have h4 : Y.take (i + 1) = Y.take i ++ [Y[i]'(by omega)] := List.take_succ_eq_append_getElem (by omega)
  have hd : d.toList = (P ++ Y.take i) ++ X[i]'(by omega) :: ((X.drop (i + 1) ++ M ++ X.take i) ++ Y[i]'(by omega) :: (Y.drop (i + 1) ++ Q)) := by
    rw [h, h1, h2]; simp only [List.append_assoc, List.cons_append]
  have l1 : (P ++ Y.take i).length = a + i := by rw [List.length_append, List.length_take]; omega
  have l2 : (P ++ Y.take i).length + 1 + (X.drop (i + 1) ++ M ++ X.take i).length = b + i := by
    rw [l1, List.length_append, List.length_append, List.length_drop, List.length_take]; omega
  have hs := swp_list hd l1 l2
  have z1 := (get_mid hd l1).1
  have hd' : d.toList = ((P ++ Y.take i) ++ X[i]'(by omega) :: (X.drop (i + 1) ++ M ++ X.take i)) ++ Y[i]'(by omega) :: (Y.drop (i + 1) ++ Q) := by rw [hd]; simp only [List.append_assoc, List.cons_append]
  have z2 := (get_mid (i := b + i) hd' (by rw [List.length_append, List.length_cons, l1]; omega)).1
  refine ⟨z1, z2, ?_⟩
  rw [hs, h3, h4]
  simp only [List.append_assoc, List.cons_append, List.nil_append]
end
section
variable {α : Type} {k : α → Int}
theorem le_take {l : List α} (h : l.Pairwise (fun x y => k x ≤ k y)) {s : Nat} {x : α} (hs : 0 < s) (hx : l[s - 1]? = some x) : ∀ z ∈ l.take s, k z ≤ k x := by
  intro z hz
  obtain ⟨i, hi, rfl⟩ := List.mem_iff_getElem.1 hz
  rw [List.length_take] at hi
  obtain ⟨hl, rfl⟩ := List.getElem?_eq_some_iff.1 hx
  rw [List.getElem_take]
  rcases Nat.lt_or_ge i (s - 1) with hlt | hge
  · exact (List.pairwise_iff_getElem.1 h) i (s - 1) (by omega) hl hlt
  · have : i = s - 1 := by omega
    subst this
    exact Int.le_refl _
theorem le_drop {l : List α} (h : l.Pairwise (fun x y => k x ≤ k y)) {s : Nat} {y : α} (hy : l[s]? = some y) : ∀ z ∈ l.drop s, k y ≤ k z := by
  intro z hz
  obtain ⟨i, hi, rfl⟩ := List.mem_iff_getElem.1 hz
  rw [List.length_drop] at hi
  obtain ⟨hl, rfl⟩ := List.getElem?_eq_some_iff.1 hy
  rw [List.getElem_drop]
  rcases Nat.eq_zero_or_pos i with rfl | hp
  · exact Int.le_refl _
  · exact (List.pairwise_iff_getElem.1 h) s (s + i) hl (by omega) (by omega)
/-- one element that is put into a sorted row behind it -/
theorem stb_first {x : α} {B : List α} {s : Nat} (hB : B.Pairwise (fun x y => k x ≤ k y)) (h1 : ∀ z ∈ B.take s, k z < k x) (h2 : ∀ z ∈ B.drop s, k x ≤ k z) : Stb k ([x] ++ B) (B.take s ++ x :: B.drop s) := by
  have := Stb.join (k := k) (A1 := []) (A2 := [x]) (B1 := B.take s) (B2 := B.drop s) (C1 := B.take s) (C2 := x :: B.drop s) (Stb.self (by simpa using hB.sublist (List.take_sublist ..)))
    (Stb.self (List.pairwise_cons.2 ⟨h2, hB.sublist (List.drop_sublist ..)⟩)) (fun x hx => by cases hx)
    (fun a ha b hb => by
      have := List.take_append_drop s B ▸ hB
      exact (List.pairwise_append.1 this).2.2 a ha b hb)
    (fun x hx => by cases hx) (fun b hb y hy => by rw [List.mem_singleton] at hy; subst hy; exact h1 b hb)
  simpa using this
/-- .. into a sorted row in front of it -/
theorem stb_last {y : α} {A : List α} {s : Nat} (hA : A.Pairwise (fun x y => k x ≤ k y)) (h1 : ∀ z ∈ A.take s, k z ≤ k y) (h2 : ∀ z ∈ A.drop s, k y < k z) : Stb k (A ++ [y]) (A.take s ++ y :: A.drop s) := by
  have hsp := List.pairwise_append.1 (List.take_append_drop s A ▸ hA)
  have := Stb.join (k := k) (A1 := A.take s) (A2 := A.drop s) (B1 := [y]) (B2 := []) (C1 := A.take s ++ [y]) (C2 := A.drop s)
    (Stb.self (List.pairwise_append.2 ⟨hsp.1, List.pairwise_singleton _ _, fun a ha b hb => by rw [List.mem_singleton] at hb; subst hb; exact h1 a ha⟩))
    (by rw [List.append_nil]; exact Stb.self hsp.2.1) (fun a ha b hb => hsp.2.2 a ha b hb) (fun _ _ _ hb => by cases hb) (fun _ _ _ hb => by cases hb)
    (fun b hb a ha => by rw [List.mem_singleton] at hb; subst hb; exact h2 a ha)
  simpa using this
/-- the split that the library's search finds -/
theorem stb_split {A B C1 C2 : List α} {s e : Nat} (hA : A.Pairwise (fun x y => k x ≤ k y)) (hB : B.Pairwise (fun x y => k x ≤ k y))
    (h1 : s = 0 ∨ B.length ≤ e ∨ ∃ x y, A[s - 1]? = some x ∧ B[e]? = some y ∧ k x ≤ k y) (h2 : e = 0 ∨ A.length ≤ s ∨ ∃ x y, A[s]? = some x ∧ B[e - 1]? = some y ∧ k y < k x)
    (c1 : Stb k (A.take s ++ B.take e) C1) (c2 : Stb k (A.drop s ++ B.drop e) C2) : Stb k (A ++ B) (C1 ++ C2) := by
  have hsA := List.pairwise_append.1 (List.take_append_drop s A ▸ hA)
  have hsB := List.pairwise_append.1 (List.take_append_drop e B ▸ hB)
  have := Stb.join (k := k) c1 c2 hsA.2.2 hsB.2.2 (fun x hx y hy => by
    rcases h1 with rfl | h1 | ⟨u, v, hu, hv, huv⟩
    · simp at hx
    · rw [List.drop_eq_nil_of_le h1] at hy; cases hy
    · rcases Nat.eq_zero_or_pos s with rfl | hs
      · simp at hx
      · have q1 := le_take hA hs hu x hx
        have q2 := le_drop hB hv y hy
        omega) (fun x hx y hy => by
    rcases h2 with rfl | h2 | ⟨u, v, hu, hv, huv⟩
    · simp at hx
    · rw [List.drop_eq_nil_of_le h2] at hy; cases hy
    · rcases Nat.eq_zero_or_pos e with rfl | he
      · simp at hx
      · have q1 := le_take hB he hv x hx
        have q2 := le_drop hA hu y hy
        omega)
  rwa [List.take_append_drop, List.take_append_drop] at this
end
end Go.Proofs.YtdeompnaojiajaaDoor.St
