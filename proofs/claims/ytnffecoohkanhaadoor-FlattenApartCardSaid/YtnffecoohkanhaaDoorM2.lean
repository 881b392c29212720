/- The different elements of a list and their indexes, plain, for whatever elements; as a map from keys says them. No program in sight. Stable sorting, plain: what a stable order by a rank is, that there is one alone, and that the steps of the library's merging keep it. No program in sight. Stable sorting, plain: exchanges in rows, the split of two sorted rows, blocks. No program in sight. Stable sorting, plain: the insertion sort of a block; rows of sorted blocks. No program in sight. -/
import Derived.Test.YtnffecoohkanhaaDoorM1
import Derived.Sort.Defs
import Derived.Sort.WalkA
namespace Go.Proofs.YtnffecoohkanhaaDoor.Px
open Go.RowKit

section
variable {α : Type}
theorem nodupA_snoc {ts : List α} {y : α} (h : ts.Nodup) (hy : y ∉ ts) : (ts ++ [y]).Nodup := by
  rw [List.nodup_append]
  exact ⟨h, by simp, fun x hx z hz => by
    rw [List.mem_singleton] at hz
    subst hz
    intro e
    exact hy (e ▸ hx)⟩
variable (key : α → Lit)
/-- the index of each element as a map says it -/
def idxA (out : List α) (x : Lit) : Option (DataW Unit) := out.zipIdx.foldl (fun o p => if x.sameKey (key p.1) = true then some (.lit (.int .i64 (p.2 : Int))) else o) none
theorem idxA_snoc (out : List α) (l : α) : idxA key (out ++ [l]) = fun x => if x.sameKey (key l) = true then some (.lit (.int .i64 (out.length : Int))) else idxA key out x := by
  funext x
  unfold idxA
  rw [List.zipIdx_append, List.foldl_append]
  simp
theorem snocA_ind {P : List α → Prop} (h0 : P []) (h1 : ∀ l x, P l → P (l ++ [x])) (l : List α) : P l := by
  have : ∀ (n : Nat) (l : List α), l.length = n → P l := by
    intro n
    induction n with
    | zero => intro l hl; rw [List.length_eq_zero_iff.1 hl]; exact h0
    | succ n ih =>
      intro l hl
      have hne : l ≠ [] := by intro e; rw [e] at hl; cases hl
      rw [← List.dropLast_concat_getLast hne]
      exact h1 _ _ (ih _ (by rw [List.length_dropLast]; omega))
  exact this _ l rfl
end
section
variable {α : Type} [DecidableEq α]
/-- where an element stands first -/
def posA (out : List α) (x : α) : Nat := out.idxOf x
/-- the different elements of a list, behind some that are there already, and the index of each among them -/
def diffA (out : List α) : List α → List α × List Nat
  | [] => (out, [])
  | x :: r => if x ∈ out then ((diffA out r).1, posA out x :: (diffA out r).2) else ((diffA (out ++ [x]) r).1, out.length :: (diffA (out ++ [x]) r).2)
theorem diffA_snoc : ∀ (l ts : List α) (x : α), diffA ts (l ++ [x]) = if x ∈ (diffA ts l).1 then ((diffA ts l).1, (diffA ts l).2 ++ [posA (diffA ts l).1 x]) else ((diffA ts l).1 ++ [x], (diffA ts l).2 ++ [(diffA ts l).1.length])
  | [], ts, x => by by_cases h : x ∈ ts <;> simp [diffA, h]
  | y :: r, ts, x => by
    rw [List.cons_append]
    by_cases h : y ∈ ts
    · simp only [diffA, if_pos h]
      rw [diffA_snoc r ts x]
      by_cases h2 : x ∈ (diffA ts r).1
      · rw [if_pos h2, if_pos h2]; rfl
      · rw [if_neg h2, if_neg h2]; rfl
    · simp only [diffA, if_neg h]
      rw [diffA_snoc r _ x]
      by_cases h2 : x ∈ (diffA (ts ++ [y]) r).1
      · rw [if_pos h2, if_pos h2]; rfl
      · rw [if_neg h2, if_neg h2]; rfl
theorem diffA_len : ∀ (l ts : List α), (diffA ts l).2.length = l.length ∧ (diffA ts l).1.length ≤ ts.length + l.length
  | [], ts => ⟨rfl, Nat.le_refl _⟩
  | y :: r, ts => by
    by_cases h : y ∈ ts
    · obtain ⟨a, b⟩ := diffA_len r ts
      simp only [diffA, if_pos h, List.length_cons]
      omega
    · obtain ⟨a, b⟩ := diffA_len r (ts ++ [y])
      simp only [List.length_append, List.length_singleton] at b
      simp only [diffA, if_neg h, List.length_cons]
      omega
theorem diffA_nodup : ∀ (l ts : List α), ts.Nodup → (diffA ts l).1.Nodup
  | [], ts, h => h
  | y :: r, ts, h => by
    by_cases hy : y ∈ ts
    · simp only [diffA, if_pos hy]
      exact diffA_nodup r ts h
    · simp only [diffA, if_neg hy]
      exact diffA_nodup r _ (nodupA_snoc h hy)
theorem diffA_sub : ∀ (l ts : List α) (x : α), x ∈ (diffA ts l).1 → x ∈ ts ∨ x ∈ l
  | [], ts, x, h => .inl h
  | y :: r, ts, x, h => by
    by_cases hy : y ∈ ts
    · simp only [diffA, if_pos hy] at h
      exact (diffA_sub r ts x h).imp id (List.mem_cons_of_mem _)
    · simp only [diffA, if_neg hy] at h
      rcases diffA_sub r _ x h with h | h
      · rcases List.mem_append.1 h with h | h
        · exact .inl h
        · rw [List.mem_singleton] at h
          exact .inr (h ▸ List.mem_cons_self ..)
      · exact .inr (List.mem_cons_of_mem _ h)
/-- the first elements stay in front -/
theorem diffA_pre : ∀ (l ts : List α), ∃ us, (diffA ts l).1 = ts ++ us
  | [], ts => ⟨[], by simp [diffA]⟩
  | y :: r, ts => by
    by_cases hy : y ∈ ts
    · simp only [diffA, if_pos hy]
      exact diffA_pre r ts
    · simp only [diffA, if_neg hy]
      obtain ⟨us, h⟩ := diffA_pre r (ts ++ [y])
      exact ⟨y :: us, by rw [h]; simp⟩
/-- an index says which element it was -/
theorem diffA_at : ∀ (l ts : List α) (i : Nat) (x : α), l[i]? = some x → ∃ j, (diffA ts l).2[i]? = some j ∧ (diffA ts l).1[j]? = some x
  | [], _, _, _, h => by simp at h
  | y :: r, ts, i, x, h => by
    by_cases hy : y ∈ ts
    · simp only [diffA, if_pos hy]
      cases i with
      | zero =>
        simp only [List.getElem?_cons_zero, Option.some.injEq] at h
        subst h
        refine ⟨posA ts y, rfl, ?_⟩
        obtain ⟨us, e⟩ := diffA_pre r ts
        have hl := List.idxOf_lt_length_of_mem hy
        unfold posA
        rw [e, List.getElem?_append_left hl, List.getElem?_eq_getElem hl, List.getElem_idxOf hl]
      | succ i => exact diffA_at r ts i x (by simpa using h)
    · simp only [diffA, if_neg hy]
      cases i with
      | zero =>
        simp only [List.getElem?_cons_zero, Option.some.injEq] at h
        subst h
        refine ⟨ts.length, rfl, ?_⟩
        obtain ⟨us, e⟩ := diffA_pre r (ts ++ [y])
        rw [e, List.append_assoc, List.getElem?_append_right (Nat.le_refl _), Nat.sub_self]
        rfl
      | succ i => exact diffA_at r (ts ++ [y]) i x (by simpa using h)
theorem idxA_at (key : α → Lit) (hk : ∀ a b : α, (key a).sameKey (key b) = true ↔ a = b) (l : α) (out : List α) (hn : out.Nodup) : idxA key out (key l) = if l ∈ out then some (.lit (.int .i64 (posA out l : Int))) else none := by
  revert hn
  refine snocA_ind (P := fun out => out.Nodup → idxA key out (key l) = if l ∈ out then some (.lit (.int .i64 (posA out l : Int))) else none) (fun _ => by simp [idxA]) (fun out y ih hn => ?_) out
  rw [List.nodup_append] at hn
  have hy : y ∉ out := fun hm => hn.2.2 y hm y (by simp) rfl
  have ih' := ih hn.1
  rw [idxA_snoc]
  dsimp only
  by_cases e : l = y
  · subst e
    unfold posA
    rw [if_pos ((hk l l).2 rfl), if_pos (by simp), List.idxOf_append, if_neg hy]
    simp
  · rw [if_neg (fun h => e ((hk l y).1 h)), ih']
    by_cases hm : l ∈ out
    · unfold posA
      rw [if_pos hm, if_pos (List.mem_append_left _ hm), List.idxOf_append, if_pos hm]
    · rw [if_neg hm, if_neg (by
        intro h
        rcases List.mem_append.1 h with h | h
        · exact hm h
        · rw [List.mem_singleton] at h
          exact e h)]
end
end Go.Proofs.YtnffecoohkanhaaDoor.Px
namespace Go.Proofs.YtnffecoohkanhaaDoor.St

section
variable {α : Type} (k : α → Int)
/-- C is D, sorted by rank, equals in the order in which they were -/
structure Stb (D C : List α) : Prop where
  sorted : C.Pairwise (fun x y => k x ≤ k y)
  same : ∀ r : Int, C.filter (fun x => decide (k x = r)) = D.filter (fun x => decide (k x = r))
variable {k}
theorem Stb.nil : Stb k [] [] := ⟨List.Pairwise.nil, fun _ => rfl⟩
theorem Stb.mem {D C : List α} (h : Stb k D C) (x : α) : x ∈ C ↔ x ∈ D := by
  have := h.same (k x)
  have e : ∀ l : List α, x ∈ l ↔ x ∈ l.filter (fun y => decide (k y = k x)) := fun l => by simp
  rw [e C, e D, this]
theorem Stb.self {D : List α} (h : D.Pairwise (fun x y => k x ≤ k y)) : Stb k D D := ⟨h, fun _ => rfl⟩
theorem Stb.trans {D C E : List α} (h : Stb k D C) (h2 : Stb k C E) : Stb k D E := ⟨h2.sorted, fun r => (h2.same r).trans (h.same r)⟩
/-- there is one alone -/
theorem unique : ∀ {C E : List α}, C.Pairwise (fun x y => k x ≤ k y) → E.Pairwise (fun x y => k x ≤ k y) → (∀ r : Int, C.filter (fun x => decide (k x = r)) = E.filter (fun x => decide (k x = r))) → C = E
  | [], [], _, _, _ => rfl
  | [], y :: E, _, _, h => by have := h (k y); simp at this
  | x :: C, [], _, _, h => by have := h (k x); simp at this
  | x :: C, y :: E, hc, he, h => by
    obtain ⟨hc1, hc2⟩ := List.pairwise_cons.1 hc
    obtain ⟨he1, he2⟩ := List.pairwise_cons.1 he
    have mem : ∀ z : α, z ∈ x :: C ↔ z ∈ y :: E := fun z => by
      have e : ∀ l : List α, z ∈ l ↔ z ∈ l.filter (fun w => decide (k w = k z)) := fun l => by simp
      rw [e (x :: C), e (y :: E), h]
    have hk : k x = k y := by
      have h1 : k x ≤ k y := by
        rcases List.mem_cons.1 ((mem y).2 (List.mem_cons_self ..)) with e | hy
        · rw [e]; exact Int.le_refl _
        · exact hc1 y hy
      have h2 : k y ≤ k x := by
        rcases List.mem_cons.1 ((mem x).1 (List.mem_cons_self ..)) with e | hx
        · rw [e]; exact Int.le_refl _
        · exact he1 x hx
      omega
    have hh := h (k x)
    rw [List.filter_cons_of_pos (by simp), List.filter_cons_of_pos (by simp [hk])] at hh
    obtain ⟨rfl, hh2⟩ := List.cons.inj hh
    have ht : ∀ r : Int, C.filter (fun w => decide (k w = r)) = E.filter (fun w => decide (k w = r)) := by
      intro r
      by_cases hr : k x = r
      · subst hr; exact hh2
      · have := h r
        rwa [List.filter_cons_of_neg (by simpa using hr), List.filter_cons_of_neg (by simpa using hr)] at this
    rw [unique hc2 he2 ht]
theorem Stb.unique {D C E : List α} (h : Stb k D C) (h2 : Stb k D E) : C = E := St.unique h.sorted h2.sorted fun r => (h.same r).trans (h2.same r).symm
theorem Stb.len {D C : List α} (h : Stb k D C) : C.length = D.length := by
  have key : ∀ (n : Nat) (D C : List α), D.length = n → (∀ r : Int, C.filter (fun x => decide (k x = r)) = D.filter (fun x => decide (k x = r))) → C.length = D.length := by
    intro n
    induction n with
    | zero =>
      intro D C hD hs
      obtain rfl := List.length_eq_zero_iff.1 hD
      cases C with
      | nil => rfl
      | cons x C => have := hs (k x); simp at this
    | succ n ih =>
      intro D C hD hs
      obtain ⟨x, D', rfl⟩ : ∃ x D', D = x :: D' := by
        cases D with
        | nil => simp at hD
        | cons x D' => exact ⟨x, D', rfl⟩
      have hx : x ∈ C := by
        have := hs (k x)
        have h2 : x ∈ C.filter (fun y => decide (k y = k x)) := by rw [this]; simp
        exact (List.mem_filter.1 h2).1
      -- the elements of the rank of x and the others, by themselves
      have sp : ∀ l : List α, l.length = (l.filter (fun y => decide (k y = k x))).length + (l.filter (fun y => !decide (k y = k x))).length := fun l => by
        induction l with
        | nil => rfl
        | cons a l il =>
          by_cases ha : k a = k x
          · simp [ha] at il ⊢; omega
          · simp [ha] at il ⊢; omega
      have hle : ((x :: D').filter (fun y => !decide (k y = k x))).length ≤ n := by
        rw [List.filter_cons_of_neg (by simp)]
        have := List.length_filter_le (fun y => !decide (k y = k x)) D'
        simp only [List.length_cons] at hD
        omega
      rw [sp C, sp (x :: D'), hs (k x)]
      have hs' : ∀ r : Int, (C.filter (fun y => !decide (k y = k x))).filter (fun y => decide (k y = r)) = ((x :: D').filter (fun y => !decide (k y = k x))).filter (fun y => decide (k y = r)) := by
        intro r
        rw [List.filter_filter, List.filter_filter]
        by_cases hr : r = k x
        · subst hr
          have e : ∀ l : List α, l.filter (fun a => decide (k a = k x) && !decide (k a = k x)) = [] := fun l => by simp
          rw [e, e]
        · have e : ∀ l : List α, l.filter (fun a => decide (k a = r) && !decide (k a = k x)) = l.filter (fun a => decide (k a = r)) := fun l => by
            apply List.filter_congr
            intro a _
            by_cases ha : k a = r
            · simp [ha, hr]
            · simp [ha]
          rw [e, e, hs r]
      have strong : ∀ (m : Nat) (D C : List α), D.length = m → m ≤ n → (∀ r : Int, C.filter (fun x => decide (k x = r)) = D.filter (fun x => decide (k x = r))) → C.length = D.length := by
        intro m
        induction m using Nat.strongRecOn with
        | _ m im =>
          intro D C hDm hmn hs
          by_cases hm : m = n
          · exact ih D C (hDm.trans hm) hs
          · -- put elements in front until there are n
            obtain ⟨z⟩ : Nonempty α := ⟨x⟩
            have := ih (List.replicate (n - m) z ++ D) (List.replicate (n - m) z ++ C) (by rw [List.length_append, List.length_replicate]; omega) (fun r => by rw [List.filter_append, List.filter_append, hs r])
            simp only [List.length_append, List.length_replicate] at this
            omega
      rw [strong _ _ _ rfl hle hs']
  exact key _ D C rfl h.same
/-- sorted halves, the elements of the second one of less rank: beside one another they are sorted -/
theorem Stb.join {A1 A2 B1 B2 C1 C2 : List α} (h1 : Stb k (A1 ++ B1) C1) (h2 : Stb k (A2 ++ B2) C2)
    (a12 : ∀ x ∈ A1, ∀ y ∈ A2, k x ≤ k y) (b12 : ∀ x ∈ B1, ∀ y ∈ B2, k x ≤ k y) (ab : ∀ x ∈ A1, ∀ y ∈ B2, k x ≤ k y) (ba : ∀ x ∈ B1, ∀ y ∈ A2, k x < k y) :
    Stb k (A1 ++ A2 ++ (B1 ++ B2)) (C1 ++ C2) := by
  refine ⟨List.pairwise_append.2 ⟨h1.sorted, h2.sorted, fun x hx y hy => ?_⟩, fun r => ?_⟩
  · rcases List.mem_append.1 ((h1.mem x).1 hx) with hx | hx
    · rcases List.mem_append.1 ((h2.mem y).1 hy) with hy | hy
      · exact a12 x hx y hy
      · exact ab x hx y hy
    · rcases List.mem_append.1 ((h2.mem y).1 hy) with hy | hy
      · exact Int.le_of_lt (ba x hx y hy)
      · exact b12 x hx y hy
  · rw [List.filter_append, h1.same, h2.same]
    simp only [List.filter_append]
    have : A2.filter (fun x => decide (k x = r)) = [] ∨ B1.filter (fun x => decide (k x = r)) = [] := by
      by_cases e : B1.filter (fun x => decide (k x = r)) = []
      · exact .inr e
      · left
        obtain ⟨b, hb⟩ := List.exists_mem_of_ne_nil _ e
        obtain ⟨hb1, hb2⟩ := List.mem_filter.1 hb
        rw [List.filter_eq_nil_iff]
        intro y hy
        have := ba b hb1 y hy
        have e2 : k b = r := by simpa using hb2
        simp only [decide_eq_true_eq]
        omega
    rcases this with e | e
    · rw [e]; simp
    · rw [e]; simp
end
end Go.Proofs.YtnffecoohkanhaaDoor.St
namespace Go.Proofs.YtnffecoohkanhaaDoor.St
open Go.Sort

section
variable {α : Type} [Inhabited α]
theorem get_mid {d : Array α} {P Q : List α} {x : α} {i : Nat} (h : d.toList = P ++ x :: Q) (hi : P.length = i) : i < d.size ∧ d[i]! = x := by
  have hs : d.size = P.length + (Q.length + 1) := by rw [← Array.length_toList, h, List.length_append, List.length_cons]
  have hlt : i < d.size := by omega
  refine ⟨hlt, ?_⟩
  rw [getElem!_pos d i hlt, ← Array.getElem_toList]
  have : d.toList[i]? = some x := by rw [h, List.getElem?_append_right (by omega), hi, Nat.sub_self]; rfl
  have h2 : d.toList[i]? = some d.toList[i] := List.getElem?_eq_getElem (by simpa using hlt)
  rw [this] at h2
  exact (Option.some.inj h2).symm
theorem swp_list {d : Array α} {P M Q : List α} {x y : α} {i j : Nat} (h : d.toList = P ++ x :: (M ++ y :: Q)) (hi : P.length = i) (hj : P.length + 1 + M.length = j) : (swp d i j).toList = P ++ y :: (M ++ x :: Q) := by
  obtain ⟨_, hx⟩ := get_mid h hi
  have h' : d.toList = (P ++ x :: M) ++ y :: Q := by rw [h]; simp
  obtain ⟨_, hy⟩ := get_mid (i := j) h' (by rw [List.length_append, List.length_cons]; omega)
  unfold swp
  rw [hx, hy, Array.toList_setIfInBounds, Array.toList_setIfInBounds, h, List.set_append_right _ _ (by omega), hi, Nat.sub_self, List.set_cons_zero, List.set_append_right _ _ (by omega)]
  have e : j - P.length = M.length + 1 := by omega
  rw [e, List.set_cons_succ, List.set_append_right _ _ (Nat.le_refl _), Nat.sub_self, List.set_cons_zero]
theorem swp_size (d : Array α) (i j : Nat) : (swp d i j).size = d.size := by unfold swp; simp
/-- one step of an exchange of two rows of the same length -/
theorem swap_step {d : Array α} {P X M Y Q : List α} {i n a b : Nat} (h : d.toList = P ++ (Y.take i ++ X.drop i) ++ M ++ (X.take i ++ Y.drop i) ++ Q) (hX : X.length = n) (hY : Y.length = n) (hi : i < n) (ha : P.length = a) (hb : P.length + n + M.length = b) :
    a + i < d.size ∧ b + i < d.size ∧ (swp d (a + i) (b + i)).toList = P ++ (Y.take (i + 1) ++ X.drop (i + 1)) ++ M ++ (X.take (i + 1) ++ Y.drop (i + 1)) ++ Q := by
  have h1 : X.drop i = X[i]'(by omega) :: X.drop (i + 1) := List.drop_eq_getElem_cons (by omega)
  have h2 : Y.drop i = Y[i]'(by omega) :: Y.drop (i + 1) := List.drop_eq_getElem_cons (by omega)
  have h3 : X.take (i + 1) = X.take i ++ [X[i]'(by omega)] := List.take_succ_eq_append_getElem (by omega)
  have h4 : Y.take (i + 1) = Y.take i ++ [Y[i]'(by omega)] := List.take_succ_eq_append_getElem (by omega)
  have hd : d.toList = (P ++ Y.take i) ++ X[i]'(by omega) :: ((X.drop (i + 1) ++ M ++ X.take i) ++ Y[i]'(by omega) :: (Y.drop (i + 1) ++ Q)) := by
    rw [h, h1, h2]; simp only [List.append_assoc, List.cons_append]
  have l1 : (P ++ Y.take i).length = a + i := by rw [List.length_append, List.length_take]; omega
  have l2 : (P ++ Y.take i).length + 1 + (X.drop (i + 1) ++ M ++ X.take i).length = b + i := by
    rw [l1, List.length_append, List.length_append, List.length_drop, List.length_take]; omega
  have hs := swp_list hd l1 l2
  have z1 := (get_mid hd l1).1
  have hd' : d.toList = ((P ++ Y.take i) ++ X[i]'(by omega) :: (X.drop (i + 1) ++ M ++ X.take i)) ++ Y[i]'(by omega) :: (Y.drop (i + 1) ++ Q) := by rw [hd]; simp only [List.append_assoc, List.cons_append]
  have z2 := (get_mid (i := b + i) hd' (by rw [List.length_append, List.length_cons, l1]; omega)).1
  refine ⟨z1, z2, ?_⟩
  rw [hs, h3, h4]
  simp only [List.append_assoc, List.cons_append, List.nil_append]
end
section
variable {α : Type} {k : α → Int}
theorem le_take {l : List α} (h : l.Pairwise (fun x y => k x ≤ k y)) {s : Nat} {x : α} (hs : 0 < s) (hx : l[s - 1]? = some x) : ∀ z ∈ l.take s, k z ≤ k x := by
  intro z hz
  obtain ⟨i, hi, rfl⟩ := List.mem_iff_getElem.1 hz
  rw [List.length_take] at hi
  obtain ⟨hl, rfl⟩ := List.getElem?_eq_some_iff.1 hx
  rw [List.getElem_take]
  rcases Nat.lt_or_ge i (s - 1) with hlt | hge
  · exact (List.pairwise_iff_getElem.1 h) i (s - 1) (by omega) hl hlt
  · have : i = s - 1 := by omega
    subst this
    exact Int.le_refl _
theorem le_drop {l : List α} (h : l.Pairwise (fun x y => k x ≤ k y)) {s : Nat} {y : α} (hy : l[s]? = some y) : ∀ z ∈ l.drop s, k y ≤ k z := by
  intro z hz
  obtain ⟨i, hi, rfl⟩ := List.mem_iff_getElem.1 hz
  rw [List.length_drop] at hi
  obtain ⟨hl, rfl⟩ := List.getElem?_eq_some_iff.1 hy
  rw [List.getElem_drop]
  rcases Nat.eq_zero_or_pos i with rfl | hp
  · exact Int.le_refl _
  · exact (List.pairwise_iff_getElem.1 h) s (s + i) hl (by omega) (by omega)
/-- one element that is put into a sorted row behind it -/
theorem stb_first {x : α} {B : List α} {s : Nat} (hB : B.Pairwise (fun x y => k x ≤ k y)) (h1 : ∀ z ∈ B.take s, k z < k x) (h2 : ∀ z ∈ B.drop s, k x ≤ k z) : Stb k ([x] ++ B) (B.take s ++ x :: B.drop s) := by
  have := Stb.join (k := k) (A1 := []) (A2 := [x]) (B1 := B.take s) (B2 := B.drop s) (C1 := B.take s) (C2 := x :: B.drop s) (Stb.self (by simpa using hB.sublist (List.take_sublist ..)))
    (Stb.self (List.pairwise_cons.2 ⟨h2, hB.sublist (List.drop_sublist ..)⟩)) (fun x hx => by cases hx)
    (fun a ha b hb => by
      have := List.take_append_drop s B ▸ hB
      exact (List.pairwise_append.1 this).2.2 a ha b hb)
    (fun x hx => by cases hx) (fun b hb y hy => by rw [List.mem_singleton] at hy; subst hy; exact h1 b hb)
  simpa using this
/-- .. into a sorted row in front of it -/
theorem stb_last {y : α} {A : List α} {s : Nat} (hA : A.Pairwise (fun x y => k x ≤ k y)) (h1 : ∀ z ∈ A.take s, k z ≤ k y) (h2 : ∀ z ∈ A.drop s, k y < k z) : Stb k (A ++ [y]) (A.take s ++ y :: A.drop s) := by
  have hsp := List.pairwise_append.1 (List.take_append_drop s A ▸ hA)
  have := Stb.join (k := k) (A1 := A.take s) (A2 := A.drop s) (B1 := [y]) (B2 := []) (C1 := A.take s ++ [y]) (C2 := A.drop s)
    (Stb.self (List.pairwise_append.2 ⟨hsp.1, List.pairwise_singleton _ _, fun a ha b hb => by rw [List.mem_singleton] at hb; subst hb; exact h1 a ha⟩))
    (by rw [List.append_nil]; exact Stb.self hsp.2.1) (fun a ha b hb => hsp.2.2 a ha b hb) (fun _ _ _ hb => by cases hb) (fun _ _ _ hb => by cases hb)
    (fun b hb a ha => by rw [List.mem_singleton] at hb; subst hb; exact h2 a ha)
  simpa using this
/-- the split that the library's search finds -/
theorem stb_split {A B C1 C2 : List α} {s e : Nat} (hA : A.Pairwise (fun x y => k x ≤ k y)) (hB : B.Pairwise (fun x y => k x ≤ k y))
    (h1 : s = 0 ∨ B.length ≤ e ∨ ∃ x y, A[s - 1]? = some x ∧ B[e]? = some y ∧ k x ≤ k y) (h2 : e = 0 ∨ A.length ≤ s ∨ ∃ x y, A[s]? = some x ∧ B[e - 1]? = some y ∧ k y < k x)
    (c1 : Stb k (A.take s ++ B.take e) C1) (c2 : Stb k (A.drop s ++ B.drop e) C2) : Stb k (A ++ B) (C1 ++ C2) := by
  have hsA := List.pairwise_append.1 (List.take_append_drop s A ▸ hA)
  have hsB := List.pairwise_append.1 (List.take_append_drop e B ▸ hB)
  have := Stb.join (k := k) c1 c2 hsA.2.2 hsB.2.2 (fun x hx y hy => by
    rcases h1 with rfl | h1 | ⟨u, v, hu, hv, huv⟩
    · simp at hx
    · rw [List.drop_eq_nil_of_le h1] at hy; cases hy
    · rcases Nat.eq_zero_or_pos s with rfl | hs
      · simp at hx
      · have q1 := le_take hA hs hu x hx
        have q2 := le_drop hB hv y hy
        omega) (fun x hx y hy => by
    rcases h2 with rfl | h2 | ⟨u, v, hu, hv, huv⟩
    · simp at hx
    · rw [List.drop_eq_nil_of_le h2] at hy; cases hy
    · rcases Nat.eq_zero_or_pos e with rfl | he
      · simp at hx
      · have q1 := le_take hB he hv x hx
        have q2 := le_drop hA hu y hy
        omega)
  rwa [List.take_append_drop, List.take_append_drop] at this
end
end Go.Proofs.YtnffecoohkanhaaDoor.St
namespace Go.Proofs.YtnffecoohkanhaaDoor.St
open Go.Sort

section
variable {α : Type} {k : α → Int}
theorem Stb.snoc {D C E : List α} {x : α} (h : Stb k D C) (h2 : Stb k (C ++ [x]) E) : Stb k (D ++ [x]) E :=
  ⟨h2.sorted, fun r => by rw [h2.same, List.filter_append, List.filter_append, h.same]⟩
theorem Stb.app {D C D2 C2 E : List α} (h : Stb k D C) (h' : Stb k D2 C2) (h2 : Stb k (C ++ C2) E) : Stb k (D ++ D2) E :=
  ⟨h2.sorted, fun r => by rw [h2.same, List.filter_append, List.filter_append, h.same, h'.same]⟩
theorem stb_put {C1 C2 : List α} {x : α} (hC : (C1 ++ C2).Pairwise (fun x y => k x ≤ k y)) (h1 : ∀ z ∈ C1, k z ≤ k x) (h2 : ∀ z ∈ C2, k x < k z) : Stb k (C1 ++ C2 ++ [x]) (C1 ++ x :: C2) := by
  have e1 : (C1 ++ C2).take C1.length = C1 := by simp
  have e2 : (C1 ++ C2).drop C1.length = C2 := by simp
  have := stb_last (s := C1.length) (y := x) hC (by rw [e1]; exact h1) (by rw [e2]; exact h2)
  rwa [e1, e2] at this
variable [Inhabited α] {lt : α → α → Bool}
theorem insInner_list (hlt : ∀ x y, lt x y = decide (k x < k y)) {P : List α} {a : Nat} (ha : P.length = a) : ∀ (n : Nat) (C : List α) (x : α) (R : List α) (d : Array α), C.length = n → d.toList = P ++ C ++ x :: R → C.Pairwise (fun x y => k x ≤ k y) →
    ∃ C1 C2, C = C1 ++ C2 ∧ (∀ z ∈ C1, k z ≤ k x) ∧ (∀ z ∈ C2, k x < k z) ∧ (insInner lt a (a + n) d).toList = P ++ C1 ++ x :: (C2 ++ R) := by
  intro n
  induction n with
  | zero =>
    intro C x R d hn hd hC
    obtain rfl := List.length_eq_zero_iff.1 hn
    refine ⟨[], [], rfl, (fun z hz => by cases hz), (fun z hz => by cases hz), ?_⟩
    rw [insInner_stop _ _ _ _ (.inl (by omega)), hd]
    rfl
  | succ n ih =>
    intro C x R d hn hd hC
    obtain ⟨C', c, rfl⟩ : ∃ C' c, C = C' ++ [c] := ⟨C.dropLast, C.getLast (by intro e; rw [e] at hn; cases hn), (List.dropLast_concat_getLast _).symm⟩
    have hn' : C'.length = n := by simpa using hn
    have hd' : d.toList = (P ++ C') ++ c :: (x :: R) := by rw [hd]; simp
    have hd2 : d.toList = (P ++ (C' ++ [c])) ++ x :: R := by rw [hd]
    have l1 : (P ++ C').length = a + n := by rw [List.length_append]; omega
    have g1 := (get_mid hd' l1).2
    have g2 := (get_mid (i := a + (n + 1)) hd2 (by simp only [List.length_append, List.length_singleton]; omega)).2
    by_cases hx : k x < k c
    · rw [insInner_go _ _ _ _ (by omega) (by rw [g2, show a + (n + 1) - 1 = a + n by omega, g1, hlt]; exact decide_eq_true hx)]
      have hs := swp_list (j := a + n + 1) (M := []) (P := P ++ C') (x := c) (y := x) (Q := R) (by rw [hd']; rfl) l1 (by rw [l1]; rfl)
      have hsw : (swp d (a + (n + 1)) (a + (n + 1) - 1)).toList = P ++ C' ++ x :: (c :: R) := by
        rw [show a + (n + 1) - 1 = a + n by omega, show a + (n + 1) = a + n + 1 by omega]
        have comm : swp d (a + n + 1) (a + n) = swp d (a + n) (a + n + 1) := by
          unfold swp
          rw [Array.setIfInBounds_comm _ _ (by omega)]
        rw [comm, hs]
        rfl
      obtain ⟨C1, C2, e, q1, q2, q3⟩ := ih C' x (c :: R) _ hn' hsw (List.pairwise_append.1 hC).1
      refine ⟨C1, C2 ++ [c], by rw [e]; simp, q1, fun z hz => ?_, ?_⟩
      · rcases List.mem_append.1 hz with hz | hz
        · exact q2 z hz
        · rw [List.mem_singleton] at hz; rw [hz]; exact hx
      · rw [show a + (n + 1) - 1 = a + n by omega] at q3 ⊢
        rw [q3]
        simp
    · rw [insInner_stop _ _ _ _ (.inr (by rw [g2, show a + (n + 1) - 1 = a + n by omega, g1, hlt]; exact decide_eq_false hx))]
      refine ⟨C' ++ [c], [], by simp, fun z hz => ?_, (fun z hz => by cases hz), by rw [hd]; simp⟩
      rcases List.mem_append.1 hz with hz | hz
      · have := (List.pairwise_append.1 hC).2.2 z hz c (List.mem_singleton.2 rfl)
        omega
      · rw [List.mem_singleton] at hz; rw [hz]; omega
theorem insOuter_list (hlt : ∀ x y, lt x y = decide (k x < k y)) {P : List α} {a : Nat} (ha : P.length = a) (R : List α) : ∀ (E : List α) (D C : List α) (d : Array α) (i b : Nat), d.toList = P ++ C ++ (E ++ R) → Stb k D C → i = a + C.length → b = i + E.length →
    ∃ C', (insOuter lt a b i d).toList = P ++ C' ++ R ∧ Stb k (D ++ E) C'
  | [], D, C, d, i, b, hd, hs, hi, hb => by
    rw [insOuter_stop _ _ _ _ _ (by simp at hb; omega)]
    exact ⟨C, by rw [hd]; rfl, by rw [List.append_nil]; exact hs⟩
  | x :: E, D, C, d, i, b, hd, hs, hi, hb => by
    rw [List.length_cons] at hb
    rw [insOuter_go _ _ _ _ _ (by omega)]
    obtain ⟨C1, C2, e, q1, q2, q3⟩ := insInner_list hlt ha C.length C x (E ++ R) d rfl (by rw [hd]; simp) hs.sorted
    rw [← hi] at q3
    have hst : Stb k (D ++ [x]) (C1 ++ x :: C2) := hs.snoc (by rw [e]; exact stb_put (by rw [← e]; exact hs.sorted) q1 q2)
    have hl : (C1 ++ x :: C2).length = C.length + 1 := by rw [e]; simp; omega
    obtain ⟨C', h1, h2⟩ := insOuter_list hlt ha R E (D ++ [x]) (C1 ++ x :: C2) (insInner lt a i d) (i + 1) b (by rw [q3]; simp) hst (by omega) (by omega)
    exact ⟨C', h1, by simpa using h2⟩
/-- the insertion sort of a part of a row -/
theorem insertion_list (hlt : ∀ x y, lt x y = decide (k x < k y)) {P D R : List α} {d : Array α} {a b : Nat} (hd : d.toList = P ++ D ++ R) (ha : P.length = a) (hb : a + D.length = b) : ∃ C, (insertionSort lt d a b).toList = P ++ C ++ R ∧ Stb k D C := by
  unfold insertionSort
  cases D with
  | nil =>
    rw [insOuter_stop _ _ _ _ _ (by simp at hb; omega)]
    exact ⟨[], by rw [hd], Stb.nil⟩
  | cons x E =>
    rw [List.length_cons] at hb
    obtain ⟨C', h1, h2⟩ := insOuter_list hlt ha R E [x] [x] d (a + 1) b (by rw [hd]; simp) (Stb.self (List.pairwise_singleton _ _)) rfl (by omega)
    exact ⟨C', h1, by simpa using h2⟩
end
section
variable {α : Type} {k : α → Int}
/-- rows of n that are sorted each, the last one perhaps shorter -/
inductive Bl (k : α → Int) (n : Nat) : List α → List α → Prop
  | last (D C : List α) : D.length ≤ n → Stb k D C → Bl k n D C
  | more (D C D2 C2 : List α) : D.length = n → Stb k D C → Bl k n D2 C2 → Bl k n (D ++ D2) (C ++ C2)
theorem Bl.len {n : Nat} {D C : List α} (h : Bl k n D C) : C.length = D.length := by
  induction h with
  | last D C _ h => exact h.len
  | more D C D2 C2 _ h _ ih => rw [List.length_append, List.length_append, h.len, ih]
/-- full rows in front -/
inductive Fu (k : α → Int) (n : Nat) : List α → List α → Prop
  | none : Fu k n [] []
  | snoc (D C D2 C2 : List α) : Fu k n D C → D2.length = n → Stb k D2 C2 → Fu k n (D ++ D2) (C ++ C2)
theorem Fu.bl {n : Nat} {D C : List α} (h : Fu k n D C) : ∀ {D2 C2 : List α}, Bl k n D2 C2 → Bl k n (D ++ D2) (C ++ C2) := by
  induction h with
  | none => intro D2 C2 h2; simpa using h2
  | snoc D C D2 C2 _ hl hs ih =>
    intro D3 C3 h3
    have := ih (Bl.more D2 C2 D3 C3 hl hs h3)
    simpa using this
theorem Fu.len {n : Nat} {D C : List α} (h : Fu k n D C) : C.length = D.length := by
  induction h with
  | none => rfl
  | snoc D C D2 C2 _ _ h ih => rw [List.length_append, List.length_append, h.len, ih]
/-- if there is one row alone -/
theorem Bl.one {n : Nat} {D C : List α} (h : Bl k n D C) (hn : D.length ≤ n) : Stb k D C := by
  cases h with
  | last _ _ _ h => exact h
  | more D C D2 C2 hl hs h2 =>
    rw [List.length_append] at hn
    have h3 : D2.length = 0 := by omega
    obtain rfl := List.length_eq_zero_iff.1 h3
    have h4 := h2.len
    obtain rfl := List.length_eq_zero_iff.1 (h4.trans h3)
    simpa using hs
/-- the two next rows, both full -/
theorem Bl.two {n : Nat} {D C : List α} (h : Bl k n D C) (h0 : 0 < n) (hn : 2 * n ≤ D.length) : ∃ D1 C1 D2 C2 D3 C3, D = D1 ++ (D2 ++ D3) ∧ C = C1 ++ (C2 ++ C3) ∧ D1.length = n ∧ D2.length = n ∧ Stb k D1 C1 ∧ Stb k D2 C2 ∧ Bl k n D3 C3 := by
  cases h with
  | last _ _ hl _ => omega
  | more D1 C1 D' C' hl hs h2 =>
    rw [List.length_append] at hn
    cases h2 with
    | last _ _ hl2 hs2 => exact ⟨D1, C1, D', C', [], [], by simp, by simp, hl, by omega, hs, hs2, Bl.last [] [] (Nat.zero_le _) Stb.nil⟩
    | more D2 C2 D3 C3 hl2 hs2 h3 => exact ⟨D1, C1, D2, C2, D3, C3, rfl, rfl, hl, hl2, hs, hs2, h3⟩
/-- a full row and a shorter one -/
theorem Bl.rest {n : Nat} {D C : List α} (h : Bl k n D C) (hn : n < D.length) (h2n : D.length < 2 * n) : ∃ D1 C1 D2 C2, D = D1 ++ D2 ∧ C = C1 ++ C2 ∧ D1.length = n ∧ Stb k D1 C1 ∧ Stb k D2 C2 := by
  cases h with
  | last _ _ hl _ => omega
  | more D1 C1 D' C' hl hs h2 =>
    rw [List.length_append] at hn h2n
    exact ⟨D1, C1, D', C', rfl, rfl, hl, hs, h2.one (by omega)⟩
end
end Go.Proofs.YtnffecoohkanhaaDoor.St
