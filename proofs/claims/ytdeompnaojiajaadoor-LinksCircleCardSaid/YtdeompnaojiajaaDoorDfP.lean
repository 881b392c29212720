/- The different elements of a list and their indexes, plain, for whatever elements; as a map from keys says them. No program in sight. -/
import Derived.Test.YtdeompnaojiajaaDoorMa
namespace Go.Proofs.YtdeompnaojiajaaDoor.Px
open Go.RowKit

section
variable {α : Type}
theorem nodupA_snoc {ts : List α} {y : α} (h : ts.Nodup) (hy : y ∉ ts) : (ts ++ [y]).Nodup := by
  rw [List.nodup_append]
  exact ⟨h, by simp, fun x hx z hz => by
    rw [List.mem_singleton] at hz
    subst hz
    intro e
    exact hy (e ▸ hx)⟩
variable (key : α → Lit)
/-- the index of each element as a map says it -/
def idxA (out : List α) (x : Lit) : Option (DataW Unit) := out.zipIdx.foldl (fun o p => if x.sameKey (key p.1) = true then some (.lit (.int .i64 (p.2 : Int))) else o) none
theorem idxA_snoc (out : List α) (l : α) : idxA key (out ++ [l]) = fun x => if x.sameKey (key l) = true then some (.lit (.int .i64 (out.length : Int))) else idxA key out x := by
  funext x
  unfold idxA
  rw [List.zipIdx_append, List.foldl_append]
  simp
theorem snocA_ind {P : List α → Prop} (h0 : P []) (h1 : ∀ l x, P l → P (l ++ [x])) (l : List α) : P l := by
  have : ∀ (n : Nat) (l : List α), l.length = n → P l := by
    intro n
    induction n with
    | zero => intro l hl; rw [List.length_eq_zero_iff.1 hl]; exact h0
    | succ n ih =>
      intro l hl
      have hne : l ≠ [] := by intro e; rw [e] at hl; cases hl
      rw [← List.dropLast_concat_getLast hne]
      exact h1 _ _ (ih _ (by rw [List.length_dropLast]; omega))
  exact this _ l rfl
end
section
variable {α : Type} [DecidableEq α]
/-- where an element stands first -/
def posA (out : List α) (x : α) : Nat := out.idxOf x
/-- the different elements of a list, behind some that are there already, and the index of each among them -/
def diffA (out : List α) : List α → List α × List Nat
  | [] => (out, [])
  | x :: r => if x ∈ out then ((diffA out r).1, posA out x :: (diffA out r).2) else ((diffA (out ++ [x]) r).1, out.length :: (diffA (out ++ [x]) r).2)
theorem diffA_snoc : ∀ (l ts : List α) (x : α), diffA ts (l ++ [x]) = if x ∈ (diffA ts l).1 then ((diffA ts l).1, (diffA ts l).2 ++ [posA (diffA ts l).1 x]) else ((diffA ts l).1 ++ [x], (diffA ts l).2 ++ [(diffA ts l).1.length])
  | [], ts, x => by by_cases h : x ∈ ts <;> simp [diffA, h]
  | y :: r, ts, x => by
    rw [List.cons_append]
    by_cases h : y ∈ ts
    · simp only [diffA, if_pos h]
      rw [diffA_snoc r ts x]
      by_cases h2 : x ∈ (diffA ts r).1
      · rw [if_pos h2, if_pos h2]; rfl
      · rw [if_neg h2, if_neg h2]; rfl
    · simp only [diffA, if_neg h]
      rw [diffA_snoc r _ x]
      by_cases h2 : x ∈ (diffA (ts ++ [y]) r).1
      · rw [if_pos h2, if_pos h2]; rfl
      · rw [if_neg h2, if_neg h2]; rfl
theorem diffA_len : ∀ (l ts : List α), (diffA ts l).2.length = l.length ∧ (diffA ts l).1.length ≤ ts.length + l.length
  | [], ts => ⟨rfl, Nat.le_refl _⟩
  | y :: r, ts => by
    by_cases h : y ∈ ts
    · obtain ⟨a, b⟩ := diffA_len r ts
      simp only [diffA, if_pos h, List.length_cons]
      omega
    · obtain ⟨a, b⟩ := diffA_len r (ts ++ [y])
      simp only [List.length_append, List.length_singleton] at b
      simp only [diffA, if_neg h, List.length_cons]
      omega
theorem diffA_nodup : ∀ (l ts : List α), ts.Nodup → (diffA ts l).1.Nodup
  | [], ts, h => h
  | y :: r, ts, h => by
    by_cases hy : y ∈ ts
    · simp only [diffA, if_pos hy]
      exact diffA_nodup r ts h
    · simp only [diffA, if_neg hy]
      exact diffA_nodup r _ (nodupA_snoc h hy)
theorem diffA_sub : ∀ (l ts : List α) (x : α), x ∈ (diffA ts l).1 → x ∈ ts ∨ x ∈ l
  | [], ts, x, h => .inl h
  | y :: r, ts, x, h => by
    by_cases hy : y ∈ ts
    · simp only [diffA, if_pos hy] at h
      exact (diffA_sub r ts x h).imp id (List.mem_cons_of_mem _)
    · simp only [diffA, if_neg hy] at h
      rcases diffA_sub r _ x h with h | h
      · rcases List.mem_append.1 h with h | h
        · exact .inl h
        · rw [List.mem_singleton] at h
          exact .inr (h ▸ List.mem_cons_self ..)
      · exact .inr (List.mem_cons_of_mem _ h)
/-- the first elements stay in front -/
theorem diffA_pre : ∀ (l ts : List α), ∃ us, (diffA ts l).1 = ts ++ us
  | [], ts => ⟨[], by simp [diffA]⟩
  | y :: r, ts => by
    by_cases hy : y ∈ ts
    · simp only [diffA, if_pos hy]
      exact diffA_pre r ts
    · simp only [diffA, if_neg hy]
      obtain ⟨us, h⟩ := diffA_pre r (ts ++ [y])
      exact ⟨y :: us, by rw [h]; simp⟩
/-- an index says which element it was -/
theorem diffA_at : ∀ (l ts : List α) (i : Nat) (x : α), l[i]? = some x → ∃ j, (diffA ts l).2[i]? = some j ∧ (diffA ts l).1[j]? = some x
  | [], _, _, _, h => by simp at h
  | y :: r, ts, i, x, h => by
    by_cases hy : y ∈ ts
    · simp only [diffA, if_pos hy]
      cases i with
      | zero =>
        simp only [List.getElem?_cons_zero, Option.some.injEq] at h
        subst h
        refine ⟨posA ts y, rfl, ?_⟩
        obtain ⟨us, e⟩ := diffA_pre r ts
        have hl := List.idxOf_lt_length_of_mem hy
        unfold posA
        rw [e, List.getElem?_append_left hl, List.getElem?_eq_getElem hl, List.getElem_idxOf hl]
      | succ i => exact diffA_at r ts i x (by simpa using h)
    · simp only [diffA, if_neg hy]
      cases i with
      | zero =>
        simp only [List.getElem?_cons_zero, Option.some.injEq] at h
        subst h
        refine ⟨ts.length, rfl, ?_⟩
        obtain ⟨us, e⟩ := diffA_pre r (ts ++ [y])
        rw [e, List.append_assoc, List.getElem?_append_right (Nat.le_refl _), Nat.sub_self]
        rfl
      | succ i => exact diffA_at r (ts ++ [y]) i x (by simpa using h)
theorem idxA_at (key : α → Lit) (hk : ∀ a b : α, (key a).sameKey (key b) = true ↔ a = b) (l : α) (out : List α) (hn : out.Nodup) : idxA key out (key l) = if l ∈ out then some (.lit (.int .i64 (posA out l : Int))) else none := by
  revert hn
  refine snocA_ind (P := fun out => out.Nodup → idxA key out (key l) = if l ∈ out then some (.lit (.int .i64 (posA out l : Int))) else none) (fun _ => by simp [idxA]) (fun out y ih hn => ?_) out
  rw [List.nodup_append] at hn
  have hy : y ∉ out := fun hm => hn.2.2 y hm y (by simp) rfl
  have ih' := ih hn.1
  rw [idxA_snoc]
  dsimp only
  by_cases e : l = y
  · subst e
    unfold posA
    rw [if_pos ((hk l l).2 rfl), if_pos (by simp), List.idxOf_append, if_neg hy]
    simp
  · rw [if_neg (fun h => e ((hk l y).1 h)), ih']
    by_cases hm : l ∈ out
    · unfold posA
      rw [if_pos hm, if_pos (List.mem_append_left _ hm), List.idxOf_append, if_pos hm]
    · rw [if_neg hm, if_neg (by
        intro h
        rcases List.mem_append.1 h with h | h
        · exact hm h
        · rw [List.mem_singleton] at h
          exact e h)]
end
end Go.Proofs.YtdeompnaojiajaaDoor.Px
