/- Stable sorting, plain: the insertion sort of a block; rows of sorted blocks. No program in sight. -/
import Derived.Test.YtkfgonbopgdmgaaDoorStQ
import Derived.Sort.WalkA
namespace Go.Proofs.YtkfgonbopgdmgaaDoor.St
open Go.Sort

section
variable {α : Type} {k : α → Int}
theorem Stb.snoc {D C E : List α} {x : α} (h : Stb k D C) (h2 : Stb k (C ++ [x]) E) : Stb k (D ++ [x]) E :=
  ⟨h2.sorted, fun r => by rw [h2.same, List.filter_append, List.filter_append, h.same]⟩
theorem Stb.app {D C D2 C2 E : List α} (h : Stb k D C) (h' : Stb k D2 C2) (h2 : Stb k (C ++ C2) E) : Stb k (D ++ D2) E :=
  ⟨h2.sorted, fun r => by rw [h2.same, List.filter_append, List.filter_append, h.same, h'.same]⟩
theorem stb_put {C1 C2 : List α} {x : α} (hC : (C1 ++ C2).Pairwise (fun x y => k x ≤ k y)) (h1 : ∀ z ∈ C1, k z ≤ k x) (h2 : ∀ z ∈ C2, k x < k z) : Stb k (C1 ++ C2 ++ [x]) (C1 ++ x :: C2) := by
  have e1 : (C1 ++ C2).take C1.length = C1 := by simp
  have e2 : (C1 ++ C2).drop C1.length = C2 := by simp
  have := stb_last (s := C1.length) (y := x) hC (by rw [e1]; exact h1) (by rw [e2]; exact h2)
  rwa [e1, e2] at this
variable [Inhabited α] {lt : α → α → Bool}
theorem insInner_list (hlt : ∀ x y, lt x y = decide (k x < k y)) {P : List α} {a : Nat} (ha : P.length = a) : ∀ (n : Nat) (C : List α) (x : α) (R : List α) (d : Array α), C.length = n → d.toList = P ++ C ++ x :: R → C.Pairwise (fun x y => k x ≤ k y) →
    ∃ C1 C2, C = C1 ++ C2 ∧ (∀ z ∈ C1, k z ≤ k x) ∧ (∀ z ∈ C2, k x < k z) ∧ (insInner lt a (a + n) d).toList = P ++ C1 ++ x :: (C2 ++ R) := by
  intro n
  induction n with
  | zero =>
    intro C x R d hn hd hC
    obtain rfl := List.length_eq_zero_iff.1 hn
    refine ⟨[], [], rfl, (fun z hz => by cases hz), (fun z hz => by cases hz), ?_⟩
    rw [insInner_stop _ _ _ _ (.inl (by omega)), hd]
    rfl
  | succ n ih =>
    intro C x R d hn hd hC
    obtain ⟨C', c, rfl⟩ : ∃ C' c, C = C' ++ [c] := ⟨C.dropLast, C.getLast (by intro e; rw [e] at hn; cases hn), (List.dropLast_concat_getLast _).symm⟩
    have hn' : C'.length = n := by simpa using hn
    have hd' : d.toList = (P ++ C') ++ c :: (x :: R) := by rw [hd]; simp
    have hd2 : d.toList = (P ++ (C' ++ [c])) ++ x :: R := by rw [hd]
    have l1 : (P ++ C').length = a + n := by rw [List.length_append]; omega
    have g1 := (get_mid hd' l1).2
    have g2 := (get_mid (i := a + (n + 1)) hd2 (by simp only [List.length_append, List.length_singleton]; omega)).2
    by_cases hx : k x < k c
    · rw [insInner_go _ _ _ _ (by omega) (by rw [g2, show a + (n + 1) - 1 = a + n by omega, g1, hlt]; exact decide_eq_true hx)]
      have hs := swp_list (j := a + n + 1) (M := []) (P := P ++ C') (x := c) (y := x) (Q := R) (by rw [hd']; rfl) l1 (by rw [l1]; rfl)
      have hsw : (swp d (a + (n + 1)) (a + (n + 1) - 1)).toList = P ++ C' ++ x :: (c :: R) := by
        rw [show a + (n + 1) - 1 = a + n by omega, show a + (n + 1) = a + n + 1 by omega]
        have comm : swp d (a + n + 1) (a + n) = swp d (a + n) (a + n + 1) := by
          unfold swp
          rw [Array.setIfInBounds_comm _ _ (by omega)]
        rw [comm, hs]
        rfl
      obtain ⟨C1, C2, e, q1, q2, q3⟩ := ih C' x (c :: R) _ hn' hsw (List.pairwise_append.1 hC).1
      refine ⟨C1, C2 ++ [c], by rw [e]; simp, q1, fun z hz => ?_, ?_⟩
      · rcases List.mem_append.1 hz with hz | hz
        · exact q2 z hz
        · rw [List.mem_singleton] at hz; rw [hz]; exact hx
      · rw [show a + (n + 1) - 1 = a + n by omega] at q3 ⊢
        rw [q3]
        simp
    · rw [insInner_stop _ _ _ _ (.inr (by rw [g2, show a + (n + 1) - 1 = a + n by omega, g1, hlt]; exact decide_eq_false hx))]
      refine ⟨C' ++ [c], [], by simp, fun z hz => ?_, (fun z hz => by cases hz), by rw [hd]; simp⟩
      rcases List.mem_append.1 hz with hz | hz
      · have := (List.pairwise_append.1 hC).2.2 z hz c (List.mem_singleton.2 rfl)
        omega
      · rw [List.mem_singleton] at hz; rw [hz]; omega
theorem insOuter_list (hlt : ∀ x y, lt x y = decide (k x < k y)) {P : List α} {a : Nat} (ha : P.length = a) (R : List α) : ∀ (E : List α) (D C : List α) (d : Array α) (i b : Nat), d.toList = P ++ C ++ (E ++ R) → Stb k D C → i = a + C.length → b = i + E.length →
    ∃ C', (insOuter lt a b i d).toList = P ++ C' ++ R ∧ Stb k (D ++ E) C'
  | [], D, C, d, i, b, hd, hs, hi, hb => by
    rw [insOuter_stop _ _ _ _ _ (by simp at hb; omega)]
    exact ⟨C, by rw [hd]; rfl, by rw [List.append_nil]; exact hs⟩
  | x :: E, D, C, d, i, b, hd, hs, hi, hb => by
    rw [List.length_cons] at hb
    rw [insOuter_go _ _ _ _ _ (by omega)]
    obtain ⟨C1, C2, e, q1, q2, q3⟩ := insInner_list hlt ha C.length C x (E ++ R) d rfl (by rw [hd]; simp) hs.sorted
    rw [← hi] at q3
    have hst : Stb k (D ++ [x]) (C1 ++ x :: C2) := hs.snoc (by rw [e]; exact stb_put (by rw [← e]; exact hs.sorted) q1 q2)
    have hl : (C1 ++ x :: C2).length = C.length + 1 := by rw [e]; simp; omega
    obtain ⟨C', h1, h2⟩ := insOuter_list hlt ha R E (D ++ [x]) (C1 ++ x :: C2) (insInner lt a i d) (i + 1) b (by rw [q3]; simp) hst (by omega) (by omega)
    exact ⟨C', h1, by simpa using h2⟩
/-- the insertion sort of a part of a row -/
theorem insertion_list (hlt : ∀ x y, lt x y = decide (k x < k y)) {P D R : List α} {d : Array α} {a b : Nat} (hd : d.toList = P ++ D ++ R) (ha : P.length = a) (hb : a + D.length = b) : ∃ C, (insertionSort lt d a b).toList = P ++ C ++ R ∧ Stb k D C := by
  unfold insertionSort
  cases D with
  | nil =>
    rw [insOuter_stop _ _ _ _ _ (by simp at hb; omega)]
    exact ⟨[], by rw [hd], Stb.nil⟩
  | cons x E =>
    rw [List.length_cons] at hb
    obtain ⟨C', h1, h2⟩ := insOuter_list hlt ha R E [x] [x] d (a + 1) b (by rw [hd]; simp) (Stb.self (List.pairwise_singleton _ _)) rfl (by omega)
    exact ⟨C', h1, by simpa using h2⟩
end
section
variable {α : Type} {k : α → Int}
/-- rows of n that are sorted each, the last one perhaps shorter -/
inductive Bl (k : α → Int) (n : Nat) : List α → List α → Prop
  | last (D C : List α) : D.length ≤ n → Stb k D C → Bl k n D C
  | more (D C D2 C2 : List α) : D.length = n → Stb k D C → Bl k n D2 C2 → Bl k n (D ++ D2) (C ++ C2)
theorem Bl.len {n : Nat} {D C : List α} (h : Bl k n D C) : C.length = D.length := by
  induction h with
  | last D C _ h => exact h.len
  | more D C D2 C2 _ h _ ih => rw [List.length_append, List.length_append, h.len, ih]
/-- full rows in front -/
inductive Fu (k : α → Int) (n : Nat) : List α → List α → Prop
  | none : Fu k n [] []
  | snoc (D C D2 C2 : List α) : Fu k n D C → D2.length = n → Stb k D2 C2 → Fu k n (D ++ D2) (C ++ C2)
theorem Fu.bl {n : Nat} {D C : List α} (h : Fu k n D C) : ∀ {D2 C2 : List α}, Bl k n D2 C2 → Bl k n (D ++ D2) (C ++ C2) := by
  induction h with
  | none => intro D2 C2 h2; simpa using h2
  | snoc D C D2 C2 _ hl hs ih =>
    intro D3 C3 h3
    have := ih (Bl.more D2 C2 D3 C3 hl hs h3)
    simpa using this
theorem Fu.len {n : Nat} {D C : List α} (h : Fu k n D C) : C.length = D.length := by
  induction h with
  | none => rfl
  | snoc D C D2 C2 _ _ h ih => rw [List.length_append, List.length_append, h.len, ih]
/-- if there is one row alone -/
theorem Bl.one {n : Nat} {D C : List α} (h : Bl k n D C) (hn : D.length ≤ n) : Stb k D C := by
  cases h with
  | last _ _ _ h => exact h
  | more D C D2 C2 hl hs h2 =>
    rw [List.length_append] at hn
    have h3 : D2.length = 0 := by omega
    obtain rfl := List.length_eq_zero_iff.1 h3
    have h4 := h2.len
    obtain rfl := List.length_eq_zero_iff.1 (h4.trans h3)
    simpa using hs
/-- the two next rows, both full -/
theorem Bl.two {n : Nat} {D C : List α} (h : Bl k n D C) (h0 : 0 < n) (hn : 2 * n ≤ D.length) : ∃ D1 C1 D2 C2 D3 C3, D = D1 ++ (D2 ++ D3) ∧ C = C1 ++ (C2 ++ C3) ∧ D1.length = n ∧ D2.length = n ∧ Stb k D1 C1 ∧ Stb k D2 C2 ∧ Bl k n D3 C3 := by
  cases h with
  | last _ _ hl _ => omega
  | more D1 C1 D' C' hl hs h2 =>
    rw [List.length_append] at hn
    cases h2 with
    | last _ _ hl2 hs2 => exact ⟨D1, C1, D', C', [], [], by simp, by simp, hl, by omega, hs, hs2, Bl.last [] [] (Nat.zero_le _) Stb.nil⟩
    | more D2 C2 D3 C3 hl2 hs2 h3 => exact ⟨D1, C1, D2, C2, D3, C3, rfl, rfl, hl, hl2, hs, hs2, h3⟩
/-- a full row and a shorter one -/
theorem Bl.rest {n : Nat} {D C : List α} (h : Bl k n D C) (hn : n < D.length) (h2n : D.length < 2 * n) : ∃ D1 C1 D2 C2, D = D1 ++ D2 ∧ C = C1 ++ C2 ∧ D1.length = n ∧ Stb k D1 C1 ∧ Stb k D2 C2 := by
  cases h with
  | last _ _ hl _ => omega
  | more D1 C1 D' C' hl hs h2 =>
    rw [List.length_append] at hn h2n
    exact ⟨D1, C1, D', C', rfl, rfl, hl, hs, h2.one (by omega)⟩
end
end Go.Proofs.YtkfgonbopgdmgaaDoor.St
