/- Where an element stands in a list that is sorted by rank, stable: behind all of less rank, and those of its own rank in front of it. What the reference's Sort puts where: a list that is filled at the places of its elements is the list sorted, stable. -/
import Derived.Test.YtnffecoohkanhaaDoorM6
import Derived.Test.YtnffecoohkanhaaDoorM2
import Derived.Laws.MakeOwn
namespace Go.Proofs.YtnffecoohkanhaaDoor.Px
open Go.RowKit
open Lk St

section
variable {α : Type} {k : α → Int}
theorem sorted_split (p : α → Bool) (hp : ∀ x y, k x ≤ k y → p y = true → p x = true) : ∀ (C : List α), C.Pairwise (fun x y => k x ≤ k y) → C = C.filter p ++ C.filter (fun x => !p x)
  | [], _ => rfl
  | x :: C, h => by
    obtain ⟨h1, h2⟩ := List.pairwise_cons.1 h
    cases hx : p x with
    | true =>
      rw [List.filter_cons_of_pos hx, List.filter_cons_of_neg (by simp [hx]), List.cons_append, ← sorted_split p hp C h2]
    | false =>
      have hn : ∀ y ∈ C, p y = false := fun y hy => by
        cases hpy : p y with
        | false => rfl
        | true => have := hp x y (h1 y hy) hpy; rw [hx] at this; cases this
      rw [List.filter_cons_of_neg (by simp [hx]), List.filter_cons_of_pos (by simp [hx]), List.filter_eq_nil_iff.2 (fun y hy => by simp [hn y hy]), List.filter_eq_self.2 (fun y hy => by simp [hn y hy]), List.nil_append]
theorem stb_to_perm {D C : List α} (h : Stb k D C) : C.Perm D := by
  classical
  rw [List.perm_iff_count]
  intro a
  have h1 := h.same (k a)
  have e : ∀ l : List α, l.count a = (l.filter (fun x => decide (k x = k a))).count a := fun l => (List.count_filter (by simp)).symm
  rw [e C, e D, h1]
theorem place_at {D C : List α} (h : Stb k D C) {i : Nat} {x : α} (hx : D[i]? = some x) : C[D.countP (fun y => decide (k y < k x)) + (D.take i).countP (fun y => decide (k y = k x))]? = some x := by
  have s1 := sorted_split (k := k) (fun y => decide (k y < k x)) (fun a b hab hb => by simp at hb ⊢; omega) C h.sorted
  have hs2 : (C.filter (fun y => !decide (k y < k x))).Pairwise (fun x y => k x ≤ k y) := h.sorted.sublist (List.filter_sublist)
  have s2 := sorted_split (k := k) (fun y => decide (k y ≤ k x)) (fun a b hab hb => by simp at hb ⊢; omega) _ hs2
  have s3 : (C.filter (fun y => !decide (k y < k x))).filter (fun y => decide (k y ≤ k x)) = C.filter (fun y => decide (k y = k x)) := by
    rw [List.filter_filter]
    congr 1
    funext y
    rw [Bool.eq_iff_iff]
    simp
    omega
  have hl : (C.filter (fun y => decide (k y < k x))).length = D.countP (fun y => decide (k y < k x)) := by
    rw [← List.countP_eq_length_filter, (stb_to_perm h).countP_eq]
  have hi := (List.getElem?_eq_some_iff.1 hx).1
  have hd : D.take i ++ x :: D.drop (i + 1) = D := by
    have e := (List.getElem?_eq_some_iff.1 hx).2
    rw [← e, ← List.drop_eq_getElem_cons hi, List.take_append_drop]
  have hf : D.filter (fun y => decide (k y = k x)) = (D.take i).filter (fun y => decide (k y = k x)) ++ x :: (D.drop (i + 1)).filter (fun y => decide (k y = k x)) := by
    have := congrArg (List.filter (fun y => decide (k y = k x))) hd
    rw [List.filter_append, List.filter_cons_of_pos (by simp)] at this
    exact this.symm
  have hm : (C.filter (fun y => decide (k y = k x)))[(D.take i).countP (fun y => decide (k y = k x))]? = some x := by
    rw [h.same (k x), hf, List.countP_eq_length_filter, List.getElem?_append_right (Nat.le_refl _), Nat.sub_self]
    rfl
  have hall : C = C.filter (fun y => decide (k y < k x)) ++ (C.filter (fun y => decide (k y = k x)) ++ (C.filter (fun y => !decide (k y < k x))).filter (fun y => !decide (k y ≤ k x))) := by
    rw [← s3, ← s2, ← s1]
  rw [hall, List.getElem?_append_right (by rw [hl]; exact Nat.le_add_right _ _), hl, Nat.add_sub_cancel_left, List.getElem?_append_left (List.getElem?_eq_some_iff.1 hm).1]
  exact hm
end
/-- how far the reference's place has counted -/
def cntL (L : List (List UInt8)) (i k : Nat) (x : List UInt8) : Nat := (L.take k).countP (fun y => decide (y < x)) + (L.take (min k i)).countP (fun y => decide (y = x))
theorem cnt_zero (L : List (List UInt8)) (i : Nat) (x : List UInt8) : cntL L i 0 x = 0 := by unfold cntL; simp
theorem cnt_step {L : List (List UInt8)} {i k : Nat} {x y : List UInt8} (hk : L[k]? = some y) : cntL L i (k + 1) x = if y < x ∨ (y = x ∧ k < i) then cntL L i k x + 1 else cntL L i k x := by
  unfold cntL
  have ht : L.take (k + 1) = L.take k ++ [y] := by rw [List.take_add_one, hk]; rfl
  rw [ht, List.countP_append]
  have h1 : List.countP (fun z => decide (z < x)) [y] = if y < x then 1 else 0 := by
    rw [List.countP_singleton]; simp
  rw [h1]
  by_cases hki : k < i
  · rw [show min (k + 1) i = k + 1 by omega, show min k i = k by omega, ht, List.countP_append]
    have h2 : List.countP (fun z => decide (z = x)) [y] = if y = x then 1 else 0 := by
      rw [List.countP_singleton]; simp
    rw [h2]
    by_cases hyx : y < x
    · have hne : ¬ y = x := fun e => by rw [e] at hyx; exact Std.lt_irrefl hyx
      rw [if_pos (show y < x ∨ (y = x ∧ k < i) from .inl hyx), if_pos hyx, if_neg hne]
      omega
    · by_cases he : y = x
      · rw [if_pos (show y < x ∨ (y = x ∧ k < i) from .inr ⟨he, hki⟩), if_neg hyx, if_pos he]
        omega
      · rw [if_neg (show ¬ (y < x ∨ (y = x ∧ k < i)) from fun q => q.elim hyx (fun q => he q.1)), if_neg hyx, if_neg he]
        omega
  · rw [show min (k + 1) i = i by omega, show min k i = i by omega]
    by_cases hyx : y < x
    · rw [if_pos (show y < x ∨ (y = x ∧ k < i) from .inl hyx), if_pos hyx]
      omega
    · rw [if_neg (show ¬ (y < x ∨ (y = x ∧ k < i)) from fun q => q.elim hyx (fun q => hki q.2)), if_neg hyx]
      omega
/-- where an element stands -/
def plL (L : List (List UInt8)) (i : Nat) : Nat := cntL L i L.length (L.getD i [])
theorem names_lt_or {x y : List UInt8} (h1 : ¬ x < y) (h2 : ¬ y < x) : x = y := by
  have a : x ≤ y := List.not_lt.1 h2
  have b : y ≤ x := List.not_lt.1 h1
  exact Std.le_antisymm a b
theorem place_name {β : Type} {D C : List (List UInt8 × β)} (h : Stb (rkN D) D C) {i : Nat} {x : List UInt8 × β} (hx : D[i]? = some x) : C[plL (D.map Prod.fst) i]? = some x := by
  have hp := place_at h hx
  have hi := (List.getElem?_eq_some_iff.1 hx).1
  have hxm : x ∈ D := List.mem_of_getElem? hx
  have e0 : (D.map Prod.fst).getD i [] = x.1 := by rw [List.getD, List.getElem?_map, hx]; rfl
  have e : plL (D.map Prod.fst) i = D.countP (fun y => decide (rkN D y < rkN D x)) + (D.take i).countP (fun y => decide (rkN D y = rkN D x)) := by
    unfold plL cntL
    rw [e0, List.take_of_length_le (Nat.le_refl _), List.length_map, show min D.length i = i by omega, ← List.map_take, List.countP_map, List.countP_map]
    congr 1
    · refine List.countP_congr fun y hy => ?_
      have := rkN_ok D y hy x hxm
      simp only [Function.comp_apply, decide_eq_true_eq]
      exact this
    · refine List.countP_congr fun y hy => ?_
      have hy := List.mem_of_mem_take hy
      have h1 := rkN_ok D y hy x hxm
      have h2 := rkN_ok D x hxm y hy
      simp only [Function.comp_apply, decide_eq_true_eq]
      constructor
      · intro e
        have a : ¬ y.1 < x.1 := fun q => by rw [e] at q; exact Std.lt_irrefl q
        have b : ¬ x.1 < y.1 := fun q => by rw [e] at q; exact Std.lt_irrefl q
        rw [h1] at a
        rw [h2] at b
        omega
      · intro e
        refine names_lt_or (fun q => ?_) (fun q => ?_)
        · have := h1.1 q; omega
        · have := h2.1 q; omega
  rw [e]
  exact hp
end Go.Proofs.YtnffecoohkanhaaDoor.Px
namespace Go.Proofs.YtnffecoohkanhaaDoor.Px
open Go.RowKit
open Lk St

section
variable {α : Type} {k : α → Int}
/-- the place of an element that has a number in the list -/
def posK (k : α → Int) (D : List α) (i : Nat) (x : α) : Nat := D.countP (fun y => decide (k y < k x)) + (D.take i).countP (fun y => decide (k y = k x))
theorem filter_nth (p : α → Bool) : ∀ (D : List α) (t : Nat) (x : α), (D.filter p)[t]? = some x → ∃ i, D[i]? = some x ∧ (D.take i).countP p = t
  | [], t, x, h => by simp at h
  | y :: D, t, x, h => by
    cases hy : p y with
    | false =>
      rw [List.filter_cons_of_neg (by simp [hy])] at h
      obtain ⟨i, h1, h2⟩ := filter_nth p D t x h
      exact ⟨i + 1, h1, by rw [List.take_succ_cons, List.countP_cons_of_neg (by simp [hy])]; exact h2⟩
    | true =>
      rw [List.filter_cons_of_pos hy] at h
      cases t with
      | zero => exact ⟨0, h, rfl⟩
      | succ t =>
        obtain ⟨i, h1, h2⟩ := filter_nth p D t x h
        exact ⟨i + 1, h1, by rw [List.take_succ_cons, List.countP_cons_of_pos hy, h2]⟩
theorem place_onto {D C : List α} (h : Stb k D C) {j : Nat} {x : α} (hx : C[j]? = some x) : ∃ i, D[i]? = some x ∧ posK k D i x = j := by
  have s1 := sorted_split (k := k) (fun y => decide (k y < k x)) (fun a b hab hb => by simp at hb ⊢; omega) C h.sorted
  have hs2 : (C.filter (fun y => !decide (k y < k x))).Pairwise (fun x y => k x ≤ k y) := h.sorted.sublist (List.filter_sublist)
  have s2 := sorted_split (k := k) (fun y => decide (k y ≤ k x)) (fun a b hab hb => by simp at hb ⊢; omega) _ hs2
  have s3 : (C.filter (fun y => !decide (k y < k x))).filter (fun y => decide (k y ≤ k x)) = C.filter (fun y => decide (k y = k x)) := by
    rw [List.filter_filter]
    congr 1
    funext y
    rw [Bool.eq_iff_iff]
    simp
    omega
  have hl : (C.filter (fun y => decide (k y < k x))).length = D.countP (fun y => decide (k y < k x)) := by
    rw [← List.countP_eq_length_filter, (stb_to_perm h).countP_eq]
  have hall : C = C.filter (fun y => decide (k y < k x)) ++ (C.filter (fun y => decide (k y = k x)) ++ (C.filter (fun y => !decide (k y < k x))).filter (fun y => !decide (k y ≤ k x))) := by
    rw [← s3, ← s2, ← s1]
  rw [hall] at hx
  by_cases h1 : j < (C.filter (fun y => decide (k y < k x))).length
  · rw [List.getElem?_append_left h1] at hx
    have := (List.mem_filter.1 (List.mem_of_getElem? hx)).2
    simp at this
  · rw [List.getElem?_append_right (by omega)] at hx
    by_cases h2 : j - (C.filter (fun y => decide (k y < k x))).length < (C.filter (fun y => decide (k y = k x))).length
    · rw [List.getElem?_append_left h2, h.same] at hx
      obtain ⟨i, g1, g2⟩ := filter_nth _ D _ x hx
      refine ⟨i, g1, ?_⟩
      unfold posK
      rw [g2, ← hl]
      omega
    · rw [List.getElem?_append_right (by omega)] at hx
      have := (List.mem_filter.1 (List.mem_of_getElem? hx)).2
      simp at this
end
theorem plL_posK {β : Type} {D : List (List UInt8 × β)} {i : Nat} {x : List UInt8 × β} (hx : D[i]? = some x) : plL (D.map Prod.fst) i = posK (rkN D) D i x := by
  have hi := (List.getElem?_eq_some_iff.1 hx).1
  have hxm : x ∈ D := List.mem_of_getElem? hx
  have e0 : (D.map Prod.fst).getD i [] = x.1 := by rw [List.getD, List.getElem?_map, hx]; rfl
  unfold plL cntL posK
  rw [e0, List.take_of_length_le (Nat.le_refl _), List.length_map, show min D.length i = i by omega, ← List.map_take, List.countP_map, List.countP_map]
  congr 1
  · refine List.countP_congr fun y hy => ?_
    have := rkN_ok D y hy x hxm
    simp only [Function.comp_apply, decide_eq_true_eq]
    exact this
  · refine List.countP_congr fun y hy => ?_
    have hy := List.mem_of_mem_take hy
    have h1 := rkN_ok D y hy x hxm
    have h2 := rkN_ok D x hxm y hy
    simp only [Function.comp_apply, decide_eq_true_eq]
    constructor
    · intro e
      rw [e] at h1 h2
      have a : ¬ rkN D y < rkN D x := fun q => Std.lt_irrefl (h1.2 q)
      have b : ¬ rkN D x < rkN D y := fun q => Std.lt_irrefl (h2.2 q)
      omega
    · intro e
      refine names_lt_or (fun q => ?_) (fun q => ?_)
      · have := h1.1 q; omega
      · have := h2.1 q; omega
/-- the list that is filled so far -/
def Filled {β : Type} (D C M : List (List UInt8 × β)) (i : Nat) : Prop := M.length = C.length ∧ ∀ k, k < i → M[plL (D.map Prod.fst) k]? = C[plL (D.map Prod.fst) k]?
theorem Filled.step {β : Type} {D C M : List (List UInt8 × β)} {i : Nat} {x : List UInt8 × β} (h : Filled D C M i) (hs : Stb (rkN D) D C) (hx : D[i]? = some x) : Filled D C (M.set (plL (D.map Prod.fst) i) x) (i + 1) ∧ plL (D.map Prod.fst) i < D.length := by
  have hp := place_name hs hx
  have hlt := (List.getElem?_eq_some_iff.1 hp).1
  refine ⟨⟨by rw [List.length_set]; exact h.1, fun k hk => ?_⟩, by rw [← hs.len]; exact hlt⟩
  by_cases e : plL (D.map Prod.fst) k = plL (D.map Prod.fst) i
  · rw [e, List.getElem?_set_self (by rw [h.1]; exact hlt), hp]
  · rw [List.getElem?_set_ne (fun q => e q.symm)]
    by_cases hki : k < i
    · exact h.2 k hki
    · obtain rfl : k = i := by omega
      exact absurd rfl e
theorem Filled.all {β : Type} {D C M : List (List UInt8 × β)} (h : Filled D C M D.length) (hs : Stb (rkN D) D C) : M = C := by
  refine List.ext_getElem? fun j => ?_
  by_cases hj : j < C.length
  · obtain ⟨x, hx⟩ : ∃ x, C[j]? = some x := ⟨_, List.getElem?_eq_getElem hj⟩
    obtain ⟨i, hi, hp⟩ := place_onto hs hx
    have hil := (List.getElem?_eq_some_iff.1 hi).1
    have := h.2 i hil
    rw [plL_posK hi, hp] at this
    exact this
  · rw [List.getElem?_eq_none (by have := h.1; omega), List.getElem?_eq_none (by omega)]
theorem stb_ex {β : Type} (D : List (List UInt8 × β)) : ∃ C, Stb (rkN D) D C := by
  suffices h : ∀ (k : List UInt8 × β → Int) (D : List (List UInt8 × β)), ∃ C, Stb k D C from h _ D
  intro k D
  induction D with
  | nil => exact ⟨[], Stb.nil⟩
  | cons x D ih =>
    obtain ⟨C, hC⟩ := ih
    have s1 := sorted_split (k := k) (fun y => decide (k y < k x)) (fun a b hab hb => by simp at hb ⊢; omega) C hC.sorted
    refine ⟨C.filter (fun y => decide (k y < k x)) ++ x :: C.filter (fun y => !decide (k y < k x)), ⟨?_, fun r => ?_⟩⟩
    · rw [List.pairwise_append]
      refine ⟨hC.sorted.sublist List.filter_sublist, List.pairwise_cons.2 ⟨fun y hy => ?_, hC.sorted.sublist List.filter_sublist⟩, fun a ha b hb => ?_⟩
      · have := (List.mem_filter.1 hy).2
        simp at this
        exact this
      · have h1 := (List.mem_filter.1 ha).2
        simp at h1
        rcases List.mem_cons.1 hb with rfl | hb
        · omega
        · have h2 := (List.mem_filter.1 hb).2
          simp at h2
          omega
    · rw [List.filter_append]
      by_cases hr : k x = r
      · rw [List.filter_cons_of_pos (by simpa using hr), List.filter_cons_of_pos (by simpa using hr), ← hC.same r]
        rw [List.filter_filter, List.filter_filter]
        have e1 : (C.filter (fun a => decide (k a = r) && decide (k a < k x))) = [] := by
          rw [List.filter_eq_nil_iff]
          intro a _
          simp
          omega
        have e2 : (C.filter (fun a => decide (k a = r) && !decide (k a < k x))) = C.filter (fun a => decide (k a = r)) := by
          congr 1
          funext a
          rw [Bool.eq_iff_iff]
          simp
          omega
        rw [e1, e2, List.nil_append]
      · rw [List.filter_cons_of_neg (by simpa using hr), List.filter_cons_of_neg (by simpa using hr), ← List.filter_append, ← s1, hC.same r]
/-- a stable sort of pairs, seen from both sides -/
theorem stb_map {α α' : Type} {k : α → Int} {k' : α' → Int} {D C : List α} (f : α → α') (h : Stb k D C) (hf : ∀ x ∈ D, k' (f x) = k x) : Stb k' (D.map f) (C.map f) := by
  have hC : ∀ x ∈ C, k' (f x) = k x := fun x hx => hf x ((h.mem x).1 hx)
  refine ⟨?_, fun r => ?_⟩
  · rw [List.pairwise_map]
    exact h.sorted.imp_of_mem (fun {a b} ha hb hab => by rw [hC a ha, hC b hb]; exact hab)
  · rw [List.filter_map, List.filter_map]
    have e : ∀ l : List α, (∀ x ∈ l, k' (f x) = k x) → l.filter ((fun x => decide (k' x = r)) ∘ f) = l.filter (fun x => decide (k x = r)) := fun l hl => List.filter_congr fun x hx => by simp [hl x hx]
    rw [e C hC, e D hf, h.same r]
theorem rkN_names {β γ : Type} {A : List (List UInt8 × β)} {B : List (List UInt8 × γ)} (hn : A.map Prod.fst = B.map Prod.fst) {a : List UInt8 × β} {b : List UInt8 × γ} (hab : a.1 = b.1) : rkN A a = rkN B b := by
  have e : ∀ {δ : Type} (l : List (List UInt8 × δ)) (x : List UInt8), l.countP (fun y => decide (y.1 < x)) = (l.map Prod.fst).countP (fun y => decide (y < x)) := fun l x => by rw [List.countP_map]; rfl
  unfold rkN
  rw [e A, e B, hn, hab]
theorem stb_pair {β γ : Type} {A CA : List (List UInt8 × β)} {B CB : List (List UInt8 × γ)} (hn : A.map Prod.fst = B.map Prod.fst) (R : List UInt8 × β → List UInt8 × γ → Prop) (hR : ∀ (i : Nat) a b, A[i]? = some a → B[i]? = some b → R a b) (hA : Stb (rkN A) A CA) (hB : Stb (rkN B) B CB) :
    CA.map Prod.fst = CB.map Prod.fst ∧ ∀ (j : Nat) a b, CA[j]? = some a → CB[j]? = some b → R a b := by
  have hl : A.length = B.length := by have := congrArg List.length hn; rwa [List.length_map, List.length_map] at this
  let Z : List (List UInt8 × (β × γ)) := (A.zip B).map fun p => (p.1.1, (p.1.2, p.2.2))
  have hz : ∀ (i : Nat) z, Z[i]? = some z → A[i]? = some (z.1, z.2.1) ∧ B[i]? = some (z.1, z.2.2) := by
    intro i z hz
    have hz : ((A.zip B)[i]?).map (fun p => (p.1.1, (p.1.2, p.2.2))) = some z := by rw [← List.getElem?_map]; exact hz
    cases ha : A[i]? with
    | none => rw [List.getElem?_eq_none (by rw [List.length_zip]; have := List.getElem?_eq_none_iff.1 ha; omega)] at hz; cases hz
    | some a =>
      have hi := (List.getElem?_eq_some_iff.1 ha).1
      obtain ⟨b, hb⟩ : ∃ b, B[i]? = some b := ⟨_, List.getElem?_eq_getElem (by omega)⟩
      have hzz : (A.zip B)[i]? = some (a, b) := by rw [List.getElem?_zip_eq_some]; exact ⟨ha, hb⟩
      rw [hzz] at hz
      simp only [Option.map_some, Option.some.injEq] at hz
      subst hz
      have e : a.1 = b.1 := by
        have h1 : (A.map Prod.fst)[i]? = some a.1 := by rw [List.getElem?_map, ha]; rfl
        have h2 : (B.map Prod.fst)[i]? = some b.1 := by rw [List.getElem?_map, hb]; rfl
        rw [hn, h2] at h1
        simpa using h1.symm
      exact ⟨rfl, by rw [hb]; dsimp only; rw [e]⟩
  have zA : Z.map (fun z => (z.1, z.2.1)) = A := by
    refine List.ext_getElem? fun i => ?_
    rw [List.getElem?_map]
    by_cases hi : i < Z.length
    · obtain ⟨z, hz'⟩ : ∃ z, Z[i]? = some z := ⟨_, List.getElem?_eq_getElem hi⟩
      rw [hz', (hz i z hz').1]
      rfl
    · have : Z.length = A.length := by simp [Z]; omega
      rw [List.getElem?_eq_none (by omega), List.getElem?_eq_none (by omega)]
      rfl
  have zB : Z.map (fun z => (z.1, z.2.2)) = B := by
    refine List.ext_getElem? fun i => ?_
    rw [List.getElem?_map]
    by_cases hi : i < Z.length
    · obtain ⟨z, hz'⟩ : ∃ z, Z[i]? = some z := ⟨_, List.getElem?_eq_getElem hi⟩
      rw [hz', (hz i z hz').2]
      rfl
    · have : Z.length = A.length := by simp [Z]; omega
      rw [List.getElem?_eq_none (by omega), List.getElem?_eq_none (by omega)]
      rfl
  have nA : Z.map Prod.fst = A.map Prod.fst := by
    have h := congrArg (List.map Prod.fst) zA
    rw [List.map_map] at h
    exact h
  obtain ⟨C, hC⟩ := stb_ex Z
  have cA : CA = C.map (fun z => (z.1, z.2.1)) := by
    refine hA.unique ?_
    have h := stb_map (k' := rkN A) (fun z : List UInt8 × (β × γ) => (z.1, z.2.1)) hC (fun x _ => rkN_names nA.symm rfl)
    rwa [zA] at h
  have cB : CB = C.map (fun z => (z.1, z.2.2)) := by
    refine hB.unique ?_
    have h := stb_map (k' := rkN B) (fun z : List UInt8 × (β × γ) => (z.1, z.2.2)) hC (fun x _ => rkN_names (hn.symm.trans nA.symm) rfl)
    rwa [zB] at h
  refine ⟨by rw [cA, cB, List.map_map, List.map_map]; rfl, fun j a b ha hb => ?_⟩
  rw [cA, List.getElem?_map] at ha
  rw [cB, List.getElem?_map] at hb
  cases hc : C[j]? with
  | none => rw [hc] at ha; cases ha
  | some c =>
    rw [hc] at ha hb
    simp only [Option.map_some, Option.some.injEq] at ha hb
    subst ha hb
    obtain ⟨i, hi⟩ := List.getElem?_of_mem ((hC.mem c).1 (List.mem_of_getElem? hc))
    obtain ⟨h1, h2⟩ := hz i c hi
    exact hR i _ _ h1 h2
/-- making several elements of several cells -/
theorem make_rows {Pr : Program} (t e : TypeId) (i : TypeInfo) (z : Value) (ht : Pr.underlying t = some (.slice e)) (hi : Pr.info? e = some i) (hz : i.zero = some z) (hb : i.bytes ≤ 1000) (n : Nat) (hn : n ≤ 1000000) (w : World) :
    (Instr.makeSlice t (.int .i64 (n : Int)) (.int .i64 (n : Int))).run Pr w = .ok (.slice (some ⟨w.heap.size, 0, none⟩) n n) (w.alloc (.cells (madeCells z.cells (n * i.size)) e)) := by
  have h1 : (i.bytes : Int) * (n : Int) ≤ 281474976710656 := by
    have : i.bytes * n ≤ 1000 * 1000000 := Nat.mul_le_mul hb hn
    have h2 : ((i.bytes * n : Nat) : Int) ≤ 281474976710656 := by omega
    rwa [Int.natCast_mul] at h2
  have hr := run_make (P := Pr) w t e i z ht hi hz .i64 .i64 n n (by omega) (by omega) h1 (by omega)
  simp only [Int.toNat_natCast] at hr
  exact hr
theorem made_flat {α : Type} (f : α → List Value) (a : α) (z : Array Value) (hz : z.toList = f a) : ∀ n, (madeCells z (n * z.size)).toList = (List.replicate n a).flatMap f := by
  intro n
  have hl : ∀ x : α, x = a → (f x).length = z.size := fun x hx => by rw [hx, ← hz, Array.length_toList]
  refine List.ext_getElem? fun j => ?_
  unfold madeCells
  rw [Array.toList_map, List.getElem?_map, Array.toList_range]
  induction n generalizing j with
  | zero => simp
  | succ n ih =>
    rw [List.replicate_succ, List.flatMap_cons]
    by_cases hj : j < z.size
    · rw [List.getElem?_append_left (by rw [hl a rfl]; exact hj), ← hz, List.getElem?_range (by rw [Nat.add_mul]; omega)]
      simp [Nat.mod_eq_of_lt hj, hj]
    · rw [List.getElem?_append_right (by rw [hl a rfl]; omega), hl a rfl, ← ih (j - z.size)]
      by_cases hj2 : j < (n + 1) * z.size
      · rw [Nat.add_mul] at hj2
        rw [List.getElem?_range (by rw [Nat.add_mul]; omega), List.getElem?_range (by omega)]
        have : j % z.size = (j - z.size) % z.size := by rw [← Nat.mod_eq_sub_mod (by omega)]
        simp [this]
      · rw [Nat.add_mul] at hj2
        rw [List.getElem?_eq_none (by rw [List.length_range, Nat.add_mul]; omega), List.getElem?_eq_none (by rw [List.length_range]; omega)]
end Go.Proofs.YtnffecoohkanhaaDoor.Px
