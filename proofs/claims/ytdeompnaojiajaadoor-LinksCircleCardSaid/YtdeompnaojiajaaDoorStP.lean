/- Stable sorting, plain: what a stable order by a rank is, that there is one alone, and that the steps of the library's merging keep it. No program in sight. -/
namespace Go.Proofs.YtdeompnaojiajaaDoor.St

section
variable {α : Type} (k : α → Int)
/-- C is D, sorted by rank, equals in the order in which they were -/
structure Stb (D C : List α) : Prop where
  sorted : C.Pairwise (fun x y => k x ≤ k y)
  same : ∀ r : Int, C.filter (fun x => decide (k x = r)) = D.filter (fun x => decide (k x = r))
variable {k}
theorem Stb.nil : Stb k [] [] := ⟨List.Pairwise.nil, fun _ => rfl⟩
theorem Stb.mem {D C : List α} (h : Stb k D C) (x : α) : x ∈ C ↔ x ∈ D := by
  have := h.same (k x)
  have e : ∀ l : List α, x ∈ l ↔ x ∈ l.filter (fun y => decide (k y = k x)) := fun l => by simp
  rw [e C, e D, this]
theorem Stb.self {D : List α} (h : D.Pairwise (fun x y => k x ≤ k y)) : Stb k D D := ⟨h, fun _ => rfl⟩
theorem Stb.trans {D C E : List α} (h : Stb k D C) (h2 : Stb k C E) : Stb k D E := ⟨h2.sorted, fun r => (h2.same r).trans (h.same r)⟩
/-- there is one alone -/
theorem unique : ∀ {C E : List α}, C.Pairwise (fun x y => k x ≤ k y) → E.Pairwise (fun x y => k x ≤ k y) → (∀ r : Int, C.filter (fun x => decide (k x = r)) = E.filter (fun x => decide (k x = r))) → C = E
  | [], [], _, _, _ => rfl
  | [], y :: E, _, _, h => by have := h (k y); simp at this
  | x :: C, [], _, _, h => by have := h (k x); simp at this
  | x :: C, y :: E, hc, he, h => by
    obtain ⟨hc1, hc2⟩ := List.pairwise_cons.1 hc
    obtain ⟨he1, he2⟩ := List.pairwise_cons.1 he
    have mem : ∀ z : α, z ∈ x :: C ↔ z ∈ y :: E := fun z => by
      have e : ∀ l : List α, z ∈ l ↔ z ∈ l.filter (fun w => decide (k w = k z)) := fun l => by simp
      rw [e (x :: C), e (y :: E), h]
    have hk : k x = k y := by
      have h1 : k x ≤ k y := by
        rcases List.mem_cons.1 ((mem y).2 (List.mem_cons_self ..)) with e | hy
        · rw [e]; exact Int.le_refl _
        · exact hc1 y hy
      have h2 : k y ≤ k x := by
        rcases List.mem_cons.1 ((mem x).1 (List.mem_cons_self ..)) with e | hx
        · rw [e]; exact Int.le_refl _
        · exact he1 x hx
      omega
    have hh := h (k x)
    rw [List.filter_cons_of_pos (by simp), List.filter_cons_of_pos (by simp [hk])] at hh
    obtain ⟨rfl, hh2⟩ := List.cons.inj hh
    have ht : ∀ r : Int, C.filter (fun w => decide (k w = r)) = E.filter (fun w => decide (k w = r)) := by
      intro r
      by_cases hr : k x = r
      · subst hr; exact hh2
      · have := h r
        rwa [List.filter_cons_of_neg (by simpa using hr), List.filter_cons_of_neg (by simpa using hr)] at this
    rw [unique hc2 he2 ht]
theorem Stb.unique {D C E : List α} (h : Stb k D C) (h2 : Stb k D E) : C = E := St.unique h.sorted h2.sorted fun r => (h.same r).trans (h2.same r).symm
theorem Stb.len {D C : List α} (h : Stb k D C) : C.length = D.length := by
  have key : ∀ (n : Nat) (D C : List α), D.length = n → (∀ r : Int, C.filter (fun x => decide (k x = r)) = D.filter (fun x => decide (k x = r))) → C.length = D.length := by
    intro n
    induction n with
    | zero =>
      intro D C hD hs
      obtain rfl := List.length_eq_zero_iff.1 hD
      cases C with
      | nil => rfl
      | cons x C => have := hs (k x); simp at this
    | succ n ih =>
      intro D C hD hs
      obtain ⟨x, D', rfl⟩ : ∃ x D', D = x :: D' := by
        cases D with
        | nil => simp at hD
        | cons x D' => exact ⟨x, D', rfl⟩
      have hx : x ∈ C := by
        have := hs (k x)
        have h2 : x ∈ C.filter (fun y => decide (k y = k x)) := by rw [this]; simp
        exact (List.mem_filter.1 h2).1
      -- the elements of the rank of x and the others, by themselves
      have sp : ∀ l : List α, l.length = (l.filter (fun y => decide (k y = k x))).length + (l.filter (fun y => !decide (k y = k x))).length := fun l => by
        induction l with
        | nil => rfl
        | cons a l il =>
          by_cases ha : k a = k x
          · simp [ha] at il ⊢; omega
          · simp [ha] at il ⊢; omega
      have hle : ((x :: D').filter (fun y => !decide (k y = k x))).length ≤ n := by
        rw [List.filter_cons_of_neg (by simp)]
        have := List.length_filter_le (fun y => !decide (k y = k x)) D'
        simp only [List.length_cons] at hD
        omega
      rw [sp C, sp (x :: D'), hs (k x)]
      have hs' : ∀ r : Int, (C.filter (fun y => !decide (k y = k x))).filter (fun y => decide (k y = r)) = ((x :: D').filter (fun y => !decide (k y = k x))).filter (fun y => decide (k y = r)) := by
        intro r
        rw [List.filter_filter, List.filter_filter]
        by_cases hr : r = k x
        · subst hr
          have e : ∀ l : List α, l.filter (fun a => decide (k a = k x) && !decide (k a = k x)) = [] := fun l => by simp
          rw [e, e]
        · have e : ∀ l : List α, l.filter (fun a => decide (k a = r) && !decide (k a = k x)) = l.filter (fun a => decide (k a = r)) := fun l => by
            apply List.filter_congr
            intro a _
            by_cases ha : k a = r
            · simp [ha, hr]
            · simp [ha]
          rw [e, e, hs r]
      have strong : ∀ (m : Nat) (D C : List α), D.length = m → m ≤ n → (∀ r : Int, C.filter (fun x => decide (k x = r)) = D.filter (fun x => decide (k x = r))) → C.length = D.length := by
        intro m
        induction m using Nat.strongRecOn with
        | _ m im =>
          intro D C hDm hmn hs
          by_cases hm : m = n
          · exact ih D C (hDm.trans hm) hs
          · -- put elements in front until there are n
            obtain ⟨z⟩ : Nonempty α := ⟨x⟩
            have := ih (List.replicate (n - m) z ++ D) (List.replicate (n - m) z ++ C) (by rw [List.length_append, List.length_replicate]; omega) (fun r => by rw [List.filter_append, List.filter_append, hs r])
            simp only [List.length_append, List.length_replicate] at this
            omega
      rw [strong _ _ _ rfl hle hs']
  exact key _ D C rfl h.same
/-- sorted halves, the elements of the second one of less rank: beside one another they are sorted -/
theorem Stb.join {A1 A2 B1 B2 C1 C2 : List α} (h1 : Stb k (A1 ++ B1) C1) (h2 : Stb k (A2 ++ B2) C2)
    (a12 : ∀ x ∈ A1, ∀ y ∈ A2, k x ≤ k y) (b12 : ∀ x ∈ B1, ∀ y ∈ B2, k x ≤ k y) (ab : ∀ x ∈ A1, ∀ y ∈ B2, k x ≤ k y) (ba : ∀ x ∈ B1, ∀ y ∈ A2, k x < k y) :
    Stb k (A1 ++ A2 ++ (B1 ++ B2)) (C1 ++ C2) := by
  refine ⟨List.pairwise_append.2 ⟨h1.sorted, h2.sorted, fun x hx y hy => ?_⟩, fun r => ?_⟩
  · rcases List.mem_append.1 ((h1.mem x).1 hx) with hx | hx
    · rcases List.mem_append.1 ((h2.mem y).1 hy) with hy | hy
      · exact a12 x hx y hy
      · exact ab x hx y hy
    · rcases List.mem_append.1 ((h2.mem y).1 hy) with hy | hy
      · exact Int.le_of_lt (ba x hx y hy)
      · exact b12 x hx y hy
  · rw [List.filter_append, h1.same, h2.same]
    simp only [List.filter_append]
    have : A2.filter (fun x => decide (k x = r)) = [] ∨ B1.filter (fun x => decide (k x = r)) = [] := by
      by_cases e : B1.filter (fun x => decide (k x = r)) = []
      · exact .inr e
      · left
        obtain ⟨b, hb⟩ := List.exists_mem_of_ne_nil _ e
        obtain ⟨hb1, hb2⟩ := List.mem_filter.1 hb
        rw [List.filter_eq_nil_iff]
        intro y hy
        have := ba b hb1 y hy
        have e2 : k b = r := by simpa using hb2
        simp only [decide_eq_true_eq]
        omega
    rcases this with e | e
    · rw [e]; simp
    · rw [e]; simp
end
end Go.Proofs.YtdeompnaojiajaaDoor.St
