/- Where an element stands in a list that is sorted by rank, stable: behind all of less rank, and those of its own rank in front of it. -/
import Derived.Test.YtnffecoohkanhaaGreatDoorM6
namespace Go.Proofs.YtnffecoohkanhaaGreatDoor.Px
open Go.RowKit
open Lk St

section
variable {α : Type} {k : α → Int}
theorem sorted_split (p : α → Bool) (hp : ∀ x y, k x ≤ k y → p y = true → p x = true) : ∀ (C : List α), C.Pairwise (fun x y => k x ≤ k y) → C = C.filter p ++ C.filter (fun x => !p x)
  | [], _ => rfl
  | x :: C, h => by
    obtain ⟨h1, h2⟩ := List.pairwise_cons.1 h
    cases hx : p x with
    | true =>
      rw [List.filter_cons_of_pos hx, List.filter_cons_of_neg (by simp [hx]), List.cons_append, ← sorted_split p hp C h2]
    | false =>
      have hn : ∀ y ∈ C, p y = false := fun y hy => by
        cases hpy : p y with
        | false => rfl
        | true => have := hp x y (h1 y hy) hpy; rw [hx] at this; cases this
      rw [List.filter_cons_of_neg (by simp [hx]), List.filter_cons_of_pos (by simp [hx]), List.filter_eq_nil_iff.2 (fun y hy => by simp [hn y hy]), List.filter_eq_self.2 (fun y hy => by simp [hn y hy]), List.nil_append]
theorem stb_to_perm {D C : List α} (h : Stb k D C) : C.Perm D := by
  classical
  rw [List.perm_iff_count]
  intro a
  have h1 := h.same (k a)
  have e : ∀ l : List α, l.count a = (l.filter (fun x => decide (k x = k a))).count a := fun l => (List.count_filter (by simp)).symm
  rw [e C, e D, h1]
theorem place_at {D C : List α} (h : Stb k D C) {i : Nat} {x : α} (hx : D[i]? = some x) : C[D.countP (fun y => decide (k y < k x)) + (D.take i).countP (fun y => decide (k y = k x))]? = some x := by
  have s1 := sorted_split (k := k) (fun y => decide (k y < k x)) (fun a b hab hb => by simp at hb ⊢; omega) C h.sorted
  have hs2 : (C.filter (fun y => !decide (k y < k x))).Pairwise (fun x y => k x ≤ k y) := h.sorted.sublist (List.filter_sublist)
  have s2 := sorted_split (k := k) (fun y => decide (k y ≤ k x)) (fun a b hab hb => by simp at hb ⊢; omega) _ hs2
  have s3 : (C.filter (fun y => !decide (k y < k x))).filter (fun y => decide (k y ≤ k x)) = C.filter (fun y => decide (k y = k x)) := by
    rw [List.filter_filter]
    congr 1
    funext y
    rw [Bool.eq_iff_iff]
    simp
    omega
  have hl : (C.filter (fun y => decide (k y < k x))).length = D.countP (fun y => decide (k y < k x)) := by
    rw [← List.countP_eq_length_filter, (stb_to_perm h).countP_eq]
  have hi := (List.getElem?_eq_some_iff.1 hx).1
  have hd : D.take i ++ x :: D.drop (i + 1) = D := by
    have e := (List.getElem?_eq_some_iff.1 hx).2
    rw [← e, ← List.drop_eq_getElem_cons hi, List.take_append_drop]
  have hf : D.filter (fun y => decide (k y = k x)) = (D.take i).filter (fun y => decide (k y = k x)) ++ x :: (D.drop (i + 1)).filter (fun y => decide (k y = k x)) := by
    have := congrArg (List.filter (fun y => decide (k y = k x))) hd
    rw [List.filter_append, List.filter_cons_of_pos (by simp)] at this
    exact this.symm
  have hm : (C.filter (fun y => decide (k y = k x)))[(D.take i).countP (fun y => decide (k y = k x))]? = some x := by
    rw [h.same (k x), hf, List.countP_eq_length_filter, List.getElem?_append_right (Nat.le_refl _), Nat.sub_self]
    rfl
  have hall : C = C.filter (fun y => decide (k y < k x)) ++ (C.filter (fun y => decide (k y = k x)) ++ (C.filter (fun y => !decide (k y < k x))).filter (fun y => !decide (k y ≤ k x))) := by
    rw [← s3, ← s2, ← s1]
  rw [hall, List.getElem?_append_right (by rw [hl]; exact Nat.le_add_right _ _), hl, Nat.add_sub_cancel_left, List.getElem?_append_left (List.getElem?_eq_some_iff.1 hm).1]
  exact hm
end
/-- how far the reference's place has counted -/
def cntL (L : List (List UInt8)) (i k : Nat) (x : List UInt8) : Nat := (L.take k).countP (fun y => decide (y < x)) + (L.take (min k i)).countP (fun y => decide (y = x))
theorem cnt_zero (L : List (List UInt8)) (i : Nat) (x : List UInt8) : cntL L i 0 x = 0 := by unfold cntL; simp
theorem cnt_step {L : List (List UInt8)} {i k : Nat} {x y : List UInt8} (hk : L[k]? = some y) : cntL L i (k + 1) x = if y < x ∨ (y = x ∧ k < i) then cntL L i k x + 1 else cntL L i k x := by
  unfold cntL
  have ht : L.take (k + 1) = L.take k ++ [y] := by rw [List.take_add_one, hk]; rfl
  rw [ht, List.countP_append]
  have h1 : List.countP (fun z => decide (z < x)) [y] = if y < x then 1 else 0 := by
    rw [List.countP_singleton]; simp
  rw [h1]
  by_cases hki : k < i
  · rw [show min (k + 1) i = k + 1 by omega, show min k i = k by omega, ht, List.countP_append]
    have h2 : List.countP (fun z => decide (z = x)) [y] = if y = x then 1 else 0 := by
      rw [List.countP_singleton]; simp
    rw [h2]
    by_cases hyx : y < x
    · have hne : ¬ y = x := fun e => by rw [e] at hyx; exact Std.lt_irrefl hyx
      rw [if_pos (show y < x ∨ (y = x ∧ k < i) from .inl hyx), if_pos hyx, if_neg hne]
      omega
    · by_cases he : y = x
      · rw [if_pos (show y < x ∨ (y = x ∧ k < i) from .inr ⟨he, hki⟩), if_neg hyx, if_pos he]
        omega
      · rw [if_neg (show ¬ (y < x ∨ (y = x ∧ k < i)) from fun q => q.elim hyx (fun q => he q.1)), if_neg hyx, if_neg he]
        omega
  · rw [show min (k + 1) i = i by omega, show min k i = i by omega]
    by_cases hyx : y < x
    · rw [if_pos (show y < x ∨ (y = x ∧ k < i) from .inl hyx), if_pos hyx]
      omega
    · rw [if_neg (show ¬ (y < x ∨ (y = x ∧ k < i)) from fun q => q.elim hyx (fun q => hki q.2)), if_neg hyx]
      omega
/-- where an element stands -/
def plL (L : List (List UInt8)) (i : Nat) : Nat := cntL L i L.length (L.getD i [])
theorem names_lt_or {x y : List UInt8} (h1 : ¬ x < y) (h2 : ¬ y < x) : x = y := by
  have a : x ≤ y := List.not_lt.1 h2
  have b : y ≤ x := List.not_lt.1 h1
  exact Std.le_antisymm a b
theorem place_name {β : Type} {D C : List (List UInt8 × β)} (h : Stb (rkN D) D C) {i : Nat} {x : List UInt8 × β} (hx : D[i]? = some x) : C[plL (D.map Prod.fst) i]? = some x := by
  have hp := place_at h hx
  have hi := (List.getElem?_eq_some_iff.1 hx).1
  have hxm : x ∈ D := List.mem_of_getElem? hx
  have e0 : (D.map Prod.fst).getD i [] = x.1 := by rw [List.getD, List.getElem?_map, hx]; rfl
  have e : plL (D.map Prod.fst) i = D.countP (fun y => decide (rkN D y < rkN D x)) + (D.take i).countP (fun y => decide (rkN D y = rkN D x)) := by
    unfold plL cntL
    rw [e0, List.take_of_length_le (Nat.le_refl _), List.length_map, show min D.length i = i by omega, ← List.map_take, List.countP_map, List.countP_map]
    congr 1
    · refine List.countP_congr fun y hy => ?_
      have := rkN_ok D y hy x hxm
      simp only [Function.comp_apply, decide_eq_true_eq]
      exact this
    · refine List.countP_congr fun y hy => ?_
      have hy := List.mem_of_mem_take hy
      have h1 := rkN_ok D y hy x hxm
      have h2 := rkN_ok D x hxm y hy
      simp only [Function.comp_apply, decide_eq_true_eq]
      constructor
      · intro e
        have a : ¬ y.1 < x.1 := fun q => by rw [e] at q; exact Std.lt_irrefl q
        have b : ¬ x.1 < y.1 := fun q => by rw [e] at q; exact Std.lt_irrefl q
        rw [h1] at a
        rw [h2] at b
        omega
      · intro e
        refine names_lt_or (fun q => ?_) (fun q => ?_)
        · have := h1.1 q; omega
        · have := h2.1 q; omega
  rw [e]
  exact hp
end Go.Proofs.YtnffecoohkanhaaGreatDoor.Px
