/- Slices in memory whose elements have several cells, that read as lists. -/
import Derived.Test.YtdeompnaojiajaaDoorKa
namespace Go.Proofs.YtdeompnaojiajaaDoor.Px
open Go.RowKit

/-- a slice in memory: n elements of sz cells each, the cells being xs -/
def SlV (W : World) (v : Value) (sz n : Nat) (xs : List Value) : Prop :=
  xs.length = n * sz ∧ ∃ a c, v = .slice a n c ∧ n ≤ c ∧ c ≤ maxLen ∧ (n = 0 ∨ ∃ b o, a = some ⟨b, o, none⟩ ∧ b < W.heap.size ∧ ∀ (j : Nat) (u : Value), xs[j]? = some u → W.cell? ⟨b, o + j, none⟩ = some u)
theorem SlV.keep {W W' : World} {v : Value} {sz n : Nat} {xs : List Value} (h : SlV W v sz n xs) (hB : Below W.heap.size W W') : SlV W' v sz n xs := by
  obtain ⟨h0, a, c, e, h1, h2, h3⟩ := h
  refine ⟨h0, a, c, e, h1, h2, ?_⟩
  rcases h3 with h3 | ⟨b, o, ea, hb, hc⟩
  · exact .inl h3
  · exact .inr ⟨b, o, ea, Nat.lt_of_lt_of_le hb hB.size, fun j u hu => (hB.cell (p := ⟨b, o + j, none⟩) hb).trans (hc j u hu)⟩
theorem SlV.keepB {B : Nat} {W W' : World} {v : Value} {sz n : Nat} {xs : List Value} (h : SlV W v sz n xs) (hB : Below B W W') (hz : W.heap.size ≤ B) : SlV W' v sz n xs := h.keep (hB.mono hz)
theorem SlV.nil (W : World) (sz : Nat) : SlV W (.slice none 0 0) sz 0 [] := ⟨by simp, none, 0, rfl, by omega, by unfold maxLen; omega, .inl rfl⟩
theorem SlV.of_own {W : World} {B : Nat} {e : TypeId} {sz n : Nat} {v : Value} {xs : List Value} (h : W.ownsRow B e sz v n xs) : SlV W v sz n xs := by
  refine ⟨h.1, ?_⟩
  rcases own_cells h with ⟨h0, hv⟩ | ⟨g, cap, hv, hn, hm, hg, hc⟩
  · subst h0
    exact ⟨none, 0, hv, by omega, by unfold maxLen; omega, .inl rfl⟩
  · exact ⟨some ⟨g, 0, none⟩, cap, hv, hn, hm, .inr ⟨g, 0, rfl, hg, fun j u hu => by rw [Nat.zero_add]; exact hc j u hu⟩⟩
/-- a slice over a block that is known -/
theorem SlV.of_block {W : World} {b : Nat} {cs : Array Value} {T : TypeId} {sz n c : Nat} (hb : W.heap[b]? = some (.cells cs T (0, 0))) (h1 : n ≤ c) (h2 : c ≤ maxLen) (hs : n * sz ≤ cs.size) : SlV W (.slice (some ⟨b, 0, none⟩) n c) sz n (cs.toList.take (n * sz)) := by
  refine ⟨by rw [List.length_take, Array.length_toList]; omega, _, c, rfl, h1, h2, .inr ⟨b, 0, rfl, lt_of_block hb, fun j u hu => ?_⟩⟩
  rw [List.getElem?_take] at hu
  split at hu
  · rw [Nat.zero_add]
    have := cell_of_row W b j cs T (0, 0) hb
    rw [this]
    simpa using hu
  · cases hu
/-- a cell of a list of elements that have sz cells each -/
theorem flat_at {α : Type} (f : α → List Value) (sz : Nat) (hf : ∀ x, (f x).length = sz) : ∀ (L : List α) (i j : Nat), j < sz → (L.flatMap f)[i * sz + j]? = (L[i]?).bind (fun x => (f x)[j]?)
  | [], i, j, _ => by simp
  | x :: r, 0, j, hj => by
    rw [List.flatMap_cons, Nat.zero_mul, Nat.zero_add, List.getElem?_append_left (by rw [hf]; exact hj)]
    rfl
  | x :: r, i + 1, j, hj => by
    have e : (i + 1) * sz + j = i * sz + j + (f x).length := by rw [hf, Nat.add_mul]; omega
    rw [List.flatMap_cons, e, List.getElem?_append_right (by omega), Nat.add_sub_cancel, flat_at f sz hf r i j hj]
    rfl
theorem flat_len {α : Type} (f : α → List Value) (sz : Nat) (hf : ∀ x, (f x).length = sz) : ∀ L : List α, (L.flatMap f).length = L.length * sz
  | [] => by simp
  | x :: r => by rw [List.flatMap_cons, List.length_append, hf, flat_len f sz hf r, List.length_cons, Nat.add_mul]; omega
end Go.Proofs.YtdeompnaojiajaaDoor.Px
