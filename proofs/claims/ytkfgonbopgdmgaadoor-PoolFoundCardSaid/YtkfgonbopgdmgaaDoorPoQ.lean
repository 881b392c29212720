/- Which strings a pool has, plain: those that are the end of no other one, the longer ones in front. No program in sight. -/
import Derived.Test.YtkfgonbopgdmgaaDoorPoP
namespace Go.Proofs.YtkfgonbopgdmgaaDoor.Po
open St

/-- two strings in front of their first byte 0 -/
theorem zero_first : ∀ {s t x y : B}, (0 : UInt8) ∉ s → (0 : UInt8) ∉ t → s ++ 0 :: x = t ++ 0 :: y → s = t ∧ x = y
  | [], [], x, y, _, _, h => by simpa using h
  | [], b :: t, x, y, _, ht, h => by
    exfalso
    simp only [List.nil_append, List.cons_append, List.cons.injEq] at h
    exact ht (by rw [← h.1]; exact List.mem_cons_self ..)
  | a :: s, [], x, y, hs, _, h => by
    exfalso
    simp only [List.nil_append, List.cons_append, List.cons.injEq] at h
    exact hs (by rw [h.1]; exact List.mem_cons_self ..)
  | a :: s, b :: t, x, y, hs, ht, h => by
    simp only [List.cons_append, List.cons.injEq] at h
    obtain ⟨h1, h2⟩ := zero_first (fun q => hs (List.mem_cons_of_mem _ q)) (fun q => ht (List.mem_cons_of_mem _ q)) h.2
    exact ⟨by rw [h.1, h1], h2⟩
/-- what occurs in a pool -/
theorem occ_flat {s : B} (hs : (0 : UInt8) ∉ s) : ∀ (A : List B), (∀ a ∈ A, (0 : UInt8) ∉ a) → ∀ j, j ≤ (A.flatMap w).length → Lib.occAt (A.flatMap w) (w s) j = true → ∃ a ∈ A, s <:+ a
  | [], _, j, _, h => by
    exfalso
    unfold Lib.occAt at h
    rw [List.isPrefixOf_iff_prefix] at h
    have := h.length_le
    rw [w_len] at this
    simp at this
  | a :: A, h0, j, hj, h => by
    have ha := h0 a (List.mem_cons_self ..)
    have hA : ∀ b ∈ A, (0 : UInt8) ∉ b := fun b hb => h0 b (List.mem_cons_of_mem _ hb)
    by_cases hl : j ≤ a.length
    · refine ⟨a, List.mem_cons_self .., ?_⟩
      unfold Lib.occAt at h
      rw [List.isPrefixOf_iff_prefix] at h
      obtain ⟨r, hr⟩ := h
      rw [List.flatMap_cons] at hr
      unfold w at hr
      rw [List.append_assoc, List.drop_append_of_le_length (by rw [List.length_append]; omega), List.drop_append_of_le_length hl, List.append_assoc] at hr
      have := zero_first hs (fun q => ha (List.mem_of_mem_drop q)) hr
      rw [this.1]
      exact List.drop_suffix ..
    · have hw : (w a).length ≤ j := by rw [w_len]; omega
      obtain ⟨b, hb, hs2⟩ := occ_flat hs A hA (j - (w a).length) (by rw [List.flatMap_cons, List.length_append] at hj; omega) (by
        unfold Lib.occAt at h ⊢
        rw [List.flatMap_cons, List.drop_append, List.drop_eq_nil_of_le hw, List.nil_append] at h
        exact h)
      exact ⟨b, List.mem_cons_of_mem _ hb, hs2⟩
theorem flat_occ {s : B} {A : List B} {a : B} (ha : a ∈ A) (h : s <:+ a) : 0 ≤ Lib.index (A.flatMap w) (w s) := by
  obtain ⟨A1, A2, rfl⟩ := List.append_of_mem ha
  obtain ⟨t, rfl⟩ := h
  rcases index_cases ((A1 ++ (t ++ s) :: A2).flatMap w) (w s) with ⟨_, h2⟩ | ⟨i, h2, _⟩
  · exfalso
    have h3 := h2 ((A1.flatMap w).length + t.length) (by
      rw [List.flatMap_append, List.flatMap_cons, List.length_append, List.length_append, w_len, List.length_append]
      omega)
    unfold Lib.occAt at h3
    rw [List.flatMap_append, List.flatMap_cons, List.drop_append, List.drop_eq_nil_of_le (by omega), List.nil_append, Nat.add_sub_cancel_left] at h3
    unfold w at h3
    rw [List.append_assoc, List.append_assoc, List.drop_left' rfl] at h3
    have h4 : (s ++ [0]).isPrefixOf (s ++ ([0] ++ List.flatMap w A2)) = true := by
      rw [List.isPrefixOf_iff_prefix, ← List.append_assoc]
      exact List.prefix_append _ _
    unfold w at h4
    rw [h4] at h3
    cases h3
  · omega
/-- the strings that come into a pool -/
def chooseG (A : List B) (s : B) : List B := if A.any (fun a => s.isSuffixOf a) = true then A else A ++ [s]
def chosen (A l : List B) : List B := l.foldl chooseG A
theorem chosen_snoc (A l : List B) (s : B) : chosen A (l ++ [s]) = chooseG (chosen A l) s := by unfold chosen; rw [List.foldl_append]; rfl
theorem any_suffix {A : List B} {s : B} : A.any (fun a => s.isSuffixOf a) = true ↔ ∃ a ∈ A, s <:+ a := by
  rw [List.any_eq_true]
  constructor
  · rintro ⟨a, ha, h⟩
    exact ⟨a, ha, List.isSuffixOf_iff_suffix.1 h⟩
  · rintro ⟨a, ha, h⟩
    exact ⟨a, ha, List.isSuffixOf_iff_suffix.2 h⟩
theorem step_chosen {A : List B} {s : B} (hs : (0 : UInt8) ∉ s) (hA : ∀ a ∈ A, (0 : UInt8) ∉ a) : step (A.flatMap w) s = (chooseG A s).flatMap w := by
  unfold step chooseG
  by_cases h : ∃ a ∈ A, s <:+ a
  · rw [if_pos (any_suffix.2 h)]
    obtain ⟨a, ha, h2⟩ := h
    rw [if_neg (by have := flat_occ ha h2; omega)]
  · rw [if_neg (fun q => h (any_suffix.1 q)), if_pos]
    · rw [List.flatMap_append]; simp
    · rcases index_cases (A.flatMap w) (w s) with ⟨h1, _⟩ | ⟨i, h1, h2, h3, _⟩
      · omega
      · exact absurd (occ_flat hs A hA i h2 h3) h
theorem snocB_ind {P : List B → Prop} (h0 : P []) (h1 : ∀ l x, P l → P (l ++ [x])) (l : List B) : P l := by
  have : ∀ (n : Nat) (l : List B), l.length = n → P l := by
    intro n
    induction n with
    | zero => intro l hl; rw [List.length_eq_zero_iff.1 hl]; exact h0
    | succ n ih =>
      intro l hl
      have hne : l ≠ [] := by intro e; rw [e] at hl; cases hl
      rw [← List.dropLast_concat_getLast hne]
      exact h1 _ _ (ih _ (by rw [List.length_dropLast]; omega))
  exact this _ l rfl
theorem chosen_sub (l : List B) : ∀ x ∈ chosen [] l, x ∈ l := by
  refine snocB_ind (P := fun l => ∀ x ∈ chosen [] l, x ∈ l) (fun x hx => by cases hx) (fun l s ih x hx => ?_) l
  rw [chosen_snoc] at hx
  unfold chooseG at hx
  split at hx
  · exact List.mem_append_left _ (ih x hx)
  · rcases List.mem_append.1 hx with hx | hx
    · exact List.mem_append_left _ (ih x hx)
    · exact List.mem_append_right _ hx
theorem pool_chosen (l : List B) : (∀ s ∈ l, (0 : UInt8) ∉ s) → poolF [] l = (chosen [] l).flatMap w := by
  refine snocB_ind (P := fun l => (∀ s ∈ l, (0 : UInt8) ∉ s) → poolF [] l = (chosen [] l).flatMap w) (fun _ => rfl) (fun l s ih h => ?_) l
  have hl : ∀ s ∈ l, (0 : UInt8) ∉ s := fun s hs => h s (List.mem_append_left _ hs)
  have e : poolF [] (l ++ [s]) = step (poolF [] l) s := by unfold poolF; rw [List.foldl_append]; rfl
  rw [e, ih hl, chosen_snoc, step_chosen (h s (by simp)) (fun a ha => hl a (chosen_sub l a ha))]
theorem chosen_cover (l : List B) : ∀ x ∈ l, ∃ a ∈ chosen [] l, x <:+ a := by
  refine snocB_ind (P := fun l => ∀ x ∈ l, ∃ a ∈ chosen [] l, x <:+ a) (fun x hx => by cases hx) (fun l s ih x hx => ?_) l
  rw [chosen_snoc]
  unfold chooseG
  rcases List.mem_append.1 hx with hx | hx
  · obtain ⟨a, ha, h⟩ := ih x hx
    refine ⟨a, ?_, h⟩
    split
    · exact ha
    · exact List.mem_append_left _ ha
  · rw [List.mem_singleton] at hx
    subst hx
    split
    · rename_i h
      exact any_suffix.1 h
    · exact ⟨x, by simp, List.suffix_refl _⟩
theorem chosen_nodup (l : List B) : (chosen [] l).Nodup := by
  refine snocB_ind (P := fun l => (chosen [] l).Nodup) List.nodup_nil (fun l s ih => ?_) l
  rw [chosen_snoc]
  unfold chooseG
  split
  · exact ih
  · rename_i h
    rw [List.nodup_append]
    refine ⟨ih, by simp, fun x hx z hz => ?_⟩
    rw [List.mem_singleton] at hz
    subst hz
    intro e
    subst e
    exact h (any_suffix.2 ⟨x, hx, List.suffix_refl _⟩)
theorem suffix_same {x y : B} (h : x <:+ y) (hl : y.length ≤ x.length) : x = y := h.eq_of_length (by have := h.length_le; omega)
/-- what comes into a pool is the end of no other one -/
theorem chosen_max (l : List B) : l.Pairwise (fun x y => y.length ≤ x.length) → ∀ x ∈ chosen [] l, ∀ y ∈ l, x <:+ y → y = x := by
  refine snocB_ind (P := fun l => l.Pairwise (fun x y => y.length ≤ x.length) → ∀ x ∈ chosen [] l, ∀ y ∈ l, x <:+ y → y = x) (fun _ x hx => by cases hx) (fun l s ih hp x hx y hy h => ?_) l
  obtain ⟨hp1, _, hp2⟩ := List.pairwise_append.1 hp
  have ih := ih hp1
  rw [chosen_snoc] at hx
  unfold chooseG at hx
  split at hx
  · rename_i hc
    obtain ⟨a, ha, hsa⟩ := any_suffix.1 hc
    rcases List.mem_append.1 hy with hy | hy
    · exact ih x hx y hy h
    · rw [List.mem_singleton] at hy
      subst hy
      have e := ih x hx a (chosen_sub l a ha) (h.trans hsa)
      rw [e] at hsa
      exact (suffix_same h (hsa.length_le)).symm
  · rename_i hc
    rcases List.mem_append.1 hx with hx' | hx'
    · rcases List.mem_append.1 hy with hy | hy
      · exact ih x hx' y hy h
      · have hys : y = s := by simpa using hy
        have hle := hp2 x (chosen_sub l x hx') y (by rw [hys]; simp)
        exact (suffix_same h hle).symm
    · have hxs : x = s := by simpa using hx'
      subst hxs
      rcases List.mem_append.1 hy with hy | hy
      · obtain ⟨a, ha, hya⟩ := chosen_cover l y hy
        exact absurd (any_suffix.2 ⟨a, ha, h.trans hya⟩) hc
      · simpa using hy
theorem chosen_mem {l : List B} (hp : l.Pairwise (fun x y => y.length ≤ x.length)) (x : B) : x ∈ chosen [] l ↔ x ∈ l ∧ ∀ y ∈ l, x <:+ y → y = x := by
  constructor
  · exact fun h => ⟨chosen_sub l x h, chosen_max l hp x h⟩
  · rintro ⟨h1, h2⟩
    obtain ⟨a, ha, hxa⟩ := chosen_cover l x h1
    rw [← h2 a (chosen_sub l a ha) hxa]
    exact ha
/-- whether a string is the end of another one -/
def endB (l : List B) (x : B) : Bool := l.any (fun y => decide (y ≠ x) && x.isSuffixOf y)
theorem endB_false {l : List B} {x : B} : endB l x = false ↔ ∀ y ∈ l, x <:+ y → y = x := by
  unfold endB
  rw [List.any_eq_false]
  constructor
  · intro h y hy hs
    have := h y hy
    rw [List.isSuffixOf_iff_suffix.2 hs] at this
    simpa using this
  · intro h y hy hq
    simp only [Bool.and_eq_true, decide_eq_true_eq] at hq
    exact hq.1 (h y hy (List.isSuffixOf_iff_suffix.1 hq.2))
/-- the strings that a pool of a list has, in the order of the list -/
def tops (l : List B) : List B := (firsts [] l).filter (fun x => !endB l x)
theorem firsts_nodup : ∀ (l seen : List B), (firsts seen l).Nodup
  | [], _ => List.nodup_nil
  | x :: r, seen => by
    unfold firsts
    split
    · exact firsts_nodup r seen
    · rw [List.nodup_cons]
      refine ⟨fun h => ?_, firsts_nodup r (x :: seen)⟩
      have := ((firsts_mem r (x :: seen) x).1 h).2
      exact this (List.mem_cons_self ..)
theorem tops_mem {l : List B} {x : B} : x ∈ tops l ↔ x ∈ l ∧ ∀ y ∈ l, x <:+ y → y = x := by
  unfold tops
  rw [List.mem_filter, firsts_mem]
  constructor
  · rintro ⟨⟨h, _⟩, h2⟩
    exact ⟨h, endB_false.1 (by simpa using h2)⟩
  · rintro ⟨h, h2⟩
    exact ⟨⟨h, by simp⟩, by simpa using endB_false.2 h2⟩
theorem tops_nodup (l : List B) : (tops l).Nodup := (firsts_nodup l []).filter _
/-- a list without bad strings -/
def GoodP (l : List B) : Prop := ∀ s ∈ l, 1 ≤ s.length ∧ (0 : UInt8) ∉ s
theorem good_bad {l : List B} (h : GoodP l) : l.any badB = false := by
  rw [List.any_eq_false]
  intro s hs
  obtain ⟨h1, h2⟩ := h s hs
  unfold badB
  cases s with
  | nil => simp at h1
  | cons a r => simpa using h2
/-- the order in which strings come into the pool -/
def ordL (l : List B) : List B := ordN l (mostL l)
theorem ordL_mem {l : List B} (h : GoodP l) (x : B) : x ∈ ordL l ↔ x ∈ l := (ord_stb (l := l) (n := mostL l) (fun s hs => ⟨(h s hs).1, (most_le l 0).2 s hs⟩)).mem x
theorem ordL_sorted (l : List B) : (ordL l).Pairwise (fun x y => y.length ≤ x.length) := (ord_sorted l (mostL l)).imp (fun h => by unfold rk at h; omega)
/-- the strings of the pool of a list -/
def inPool (l : List B) : List B := chosen [] (ordL l)
theorem pool_is {l : List B} (h : GoodP l) : abbrsP l = (inPool l).flatMap w := pool_chosen (ordL l) (fun s hs => (h s ((ordL_mem h s).1 hs)).2)
theorem inPool_mem {l : List B} (h : GoodP l) (x : B) : x ∈ inPool l ↔ x ∈ tops l := by
  unfold inPool
  rw [chosen_mem (ordL_sorted l), tops_mem, ordL_mem h]
  constructor
  · exact fun ⟨a, b⟩ => ⟨a, fun y hy => b y ((ordL_mem h y).2 hy)⟩
  · exact fun ⟨a, b⟩ => ⟨a, fun y hy => b y ((ordL_mem h y).1 hy)⟩
theorem inPool_perm {l : List B} (h : GoodP l) : (inPool l).Perm (tops l) := (List.perm_ext_iff_of_nodup (chosen_nodup _) (tops_nodup l)).2 (inPool_mem h)
/-- how long the pool is -/
theorem pool_len_tops {l : List B} (h : GoodP l) : (abbrsP l).length = ((tops l).flatMap w).length := by
  rw [pool_is h]
  exact ((inPool_perm h).flatMap_right w).length_eq
/-- it depends on which strings there are alone -/
theorem pool_len_same {l m : List B} (hl : GoodP l) (he : ∀ x, x ∈ l ↔ x ∈ m) : (abbrsP l).length = (abbrsP m).length := by
  have hm : GoodP m := fun s hs => hl s ((he s).2 hs)
  rw [pool_len_tops hl, pool_len_tops hm]
  refine (List.Perm.flatMap_right w ((List.perm_ext_iff_of_nodup (tops_nodup l) (tops_nodup m)).2 fun x => ?_)).length_eq
  rw [tops_mem, tops_mem, he x]
  constructor
  · exact fun ⟨a, b⟩ => ⟨a, fun y hy => b y ((he y).2 hy)⟩
  · exact fun ⟨a, b⟩ => ⟨a, fun y hy => b y ((he y).1 hy)⟩
/-- longer ones stand in front -/
theorem chosen_sublist (l : List B) : (chosen [] l).Sublist l := by
  refine snocB_ind (P := fun l => (chosen [] l).Sublist l) (List.Sublist.refl _) (fun l s ih => ?_) l
  rw [chosen_snoc]
  unfold chooseG
  split
  · exact ih.trans (List.sublist_append_left _ _)
  · exact ih.append (List.Sublist.refl _)
theorem inPool_sorted (l : List B) : (inPool l).Pairwise (fun x y => y.length ≤ x.length) := (ordL_sorted l).sublist (chosen_sublist _)
/-- each string of the list stands in the pool, from its place on up to the next byte 0 -/
theorem place_fine {l : List B} (h : GoodP l) {x : B} (hx : x ∈ l) : ∃ i : Nat, Lib.index (abbrsP l) (w x) = i ∧ i + x.length < (abbrsP l).length ∧ ((abbrsP l).drop i).take (x.length + 1) = w x := by
  obtain ⟨a, ha, hs⟩ := chosen_cover (ordL l) x ((ordL_mem h x).2 hx)
  have h1 : 0 ≤ Lib.index (abbrsP l) (w x) := by rw [pool_is h]; exact flat_occ ha hs
  rcases index_cases (abbrsP l) (w x) with ⟨h2, _⟩ | ⟨i, h2, h3, h4, _⟩
  · omega
  · have hl := occ_len h4 h3
    rw [w_len] at hl
    refine ⟨i, h2, by omega, ?_⟩
    unfold Lib.occAt at h4
    rw [List.isPrefixOf_iff_prefix, List.prefix_iff_eq_take, w_len] at h4
    exact h4.symm
end Go.Proofs.YtkfgonbopgdmgaaDoor.Po
