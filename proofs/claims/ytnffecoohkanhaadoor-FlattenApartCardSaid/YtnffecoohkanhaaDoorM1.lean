/- Maps that a call owns, read as functions on keys: what a look-up gives, what a store leaves. Slices in memory whose elements have several cells, that read as lists. -/
import Derived.Test.YtnffecoohkanhaaDoorYKa
import Derived.Maps.OwnOps
import Derived.Maps.OwnSet
import Derived.Maps.Views
import Derived.DeepKeys4
namespace Go.Proofs.YtnffecoohkanhaaDoor.Px
open Go.RowKit
open Go.Maps (Keyed)

/-- what a map reads as at each key -/
structure FnOf (D : DataW Unit) (g : Lit → Option (DataW Unit)) : Prop where
  isMap : Maps.IsMap D
  has : ∀ k, WideAt.IsKeyLit k → Maps.has D k = (g k).isSome
  val : ∀ k, WideAt.IsKeyLit k → ∀ z, D.atKey k z = (g k).getD z
theorem FnOf.empty : FnOf (.map []) (fun _ => none) := ⟨Maps.isMap_empty, fun _ _ => rfl, fun _ _ _ => rfl⟩
theorem FnOf.put {D : DataW Unit} {g : Lit → Option (DataW Unit)} (h : FnOf D g) {k : Lit} (hk : WideAt.IsKeyLit k) (d : DataW Unit) : FnOf (D.put k d) (fun x => if x.sameKey k = true then some d else g x) := by
  have hs : ∀ x : Lit, x.sameKey k = true ↔ x = k := fun x => ⟨WideAt.sameKey_eq, fun e => by rw [e]; exact WideAt.sameKey_self hk⟩
  refine ⟨h.isMap.put k d, fun x hx => ?_, fun x hx z => ?_⟩
  · by_cases e : x = k
    · rw [if_pos ((hs x).2 e)]
      subst e
      rw [Maps.has_put_same h.isMap hk]
      rfl
    · rw [if_neg (fun q => e ((hs x).1 q)), Maps.has_put_other e]
      exact h.has x hx
  · by_cases e : x = k
    · rw [if_pos ((hs x).2 e)]
      subst e
      rw [Maps.atKey_put_same h.isMap hk]
      rfl
    · rw [if_neg (fun q => e ((hs x).1 q)), Maps.atKey_put_other e]
      exact h.val x hx z
theorem plainElem_bool_inv {P : Program} {e : TypeId} (he : P.underlying e = some .bool) {v : Value} {z : DataW Unit × List MemPlace} (h : plainElem P e v = some z) : ∃ a, v = .bool a ∧ z = (.lit (.bool a), []) := by
  unfold plainElem at h
  rw [he] at h
  cases v <;> simp at h
  exact ⟨_, rfl, h.symm⟩
section
variable {P : Program} (w : World) {ops : Array Oper} {rest : List Oper} {o : Oper} {a : Act} {Q : Exit → Act → World → Prop}
/-- 'm[k]' at elements that are bools -/
theorem wpList_look_bool (hg : o.guard = none) (m x : Operand) (t : TypeId) (hop : o.op = Op.lookup t m x false)
    (k e : TypeId) (K : Keyed P k) (ht : P.underlying t = some (.map k e)) (he : P.underlying e = some .bool) (hz : (zeroValue e).run P w = .ok (.bool false) w) (b n : Nat) (D : DataW Unit) (g : Lit → Option (DataW Unit)) (hD : FnOf D g)
    (hm : a.eval m = .map (some b)) (hown : w.ownsMap P k (plainElem P e) b n D) (key : Value) (kl : Lit) (hx : a.eval x = key) (hkey : keyOf P k key = some kl) (c : Bool) (hc : (g kl).getD (.lit (.bool false)) = .lit (.bool c))
    (hK : wpList P ops Q rest (a.put o.dst (.bool c)) w) :
    wpList P ops Q (o :: rest) a w := by
  refine wpList_plain hg fun K' hK' => ?_
  obtain ⟨v, ps, hrun, hv⟩ := hown.lookup K ht hz (plainElem_bool he false) hkey
  obtain ⟨c', rfl, hc'⟩ := plainElem_bool_inv he hv
  rw [hD.val kl (K.key hkey), hc] at hc'
  obtain rfl : c = c' := by simpa using (congrArg Prod.fst hc')
  unfold Oper.wp
  simp [execOp, hop, hm, hx, hrun, Result.andThen]
  exact hK' _ _ hK
/-- 'm[k]' at elements that are integers -/
theorem wpList_look_int (hg : o.guard = none) (m x : Operand) (t : TypeId) (hop : o.op = Op.lookup t m x false)
    (k e : TypeId) (q : IntKind) (K : Keyed P k) (ht : P.underlying t = some (.map k e)) (he : P.underlying e = some (.int q)) (hz : (zeroValue e).run P w = .ok (.int q 0) w) (b n : Nat) (D : DataW Unit) (g : Lit → Option (DataW Unit)) (hD : FnOf D g)
    (hm : a.eval m = .map (some b)) (hown : w.ownsMap P k (plainElem P e) b n D) (key : Value) (kl : Lit) (hx : a.eval x = key) (hkey : keyOf P k key = some kl) (c : Int) (hc : (g kl).getD (.lit (.int q 0)) = .lit (.int q c))
    (hK : wpList P ops Q rest (a.put o.dst (.int q c)) w) :
    wpList P ops Q (o :: rest) a w :=
  wpList_lookup_own_int w hg m x t hop k e q K ht he hz b n D hm hown key kl hx hkey fun c' hat _ => by
    rw [hD.val kl (K.key hkey), hc] at hat
    obtain rfl : c = c' := by simpa using hat
    exact hK
/-- 'v, ok := m[k]' at elements that are integers -/
theorem wpList_look_ok_int (hg : o.guard = none) (m x : Operand) (t : TypeId) (hop : o.op = Op.lookup t m x true)
    (k e : TypeId) (q : IntKind) (K : Keyed P k) (ht : P.underlying t = some (.map k e)) (he : P.underlying e = some (.int q)) (hz : (zeroValue e).run P w = .ok (.int q 0) w) (b n : Nat) (D : DataW Unit) (g : Lit → Option (DataW Unit)) (hD : FnOf D g)
    (hm : a.eval m = .map (some b)) (hown : w.ownsMap P k (plainElem P e) b n D) (key : Value) (kl : Lit) (hx : a.eval x = key) (hkey : keyOf P k key = some kl) (c : Int) (hc : (g kl).getD (.lit (.int q 0)) = .lit (.int q c)) (r : Bool) (hr : (g kl).isSome = r)
    (hK : wpList P ops Q rest (a.put o.dst (.tuple #[.int q c, .bool r])) w) :
    wpList P ops Q (o :: rest) a w :=
  wpList_lookup_own_ok_int w hg m x t hop k e q K ht he hz b n D hm hown key kl hx hkey fun c' hat _ => by
    rw [hD.val kl (K.key hkey), hc] at hat
    obtain rfl : c = c' := by simpa using hat
    rw [hD.has kl (K.key hkey), hr]
    exact hK
end
theorem zero_bool (w : World) : (zeroValue 4).run Tryd.prog w = .ok (.bool false) w := by kernel_rfl
theorem zero_int (w : World) : (zeroValue 3).run Tryd.prog w = .ok (.int .i64 0) w := by kernel_rfl
/-- strings as keys -/
theorem str_keyed : Keyed Tryd.prog 9 := Maps.string_keyed Tryd.underlying9
theorem strKey_is {s : ByteArray} (h : s.size ≤ maxLen) : keyOf Tryd.prog 9 (.string s) = some (.string s.data.toList) := WideMaps.keyOf_string_mk Tryd.underlying9 h
theorem run_makeMap_hint {P : Program} {t k e : TypeId} (h : P.underlying t = some (.map k e)) (n : Int) (w : World) : (Instr.makeMap t (some (.int .i64 n))).run P w = .ok (.map (some w.heap.size)) (w.alloc (.map #[] 0)) := by
  simp [Instr.makeMap, run_underlying h, asInt, asIntOf]
theorem wf_64 {n : Int} (h : -9223372036854775808 ≤ n ∧ n ≤ 9223372036854775807) : (Lit.int .i64 n).wf = true := by
  have e := wrap64_wf n
  have : wrap64 n = n := by unfold wrap64; omega
  rwa [this] at e
end Go.Proofs.YtnffecoohkanhaaDoor.Px
namespace Go.Proofs.YtnffecoohkanhaaDoor.Px
open Go.RowKit

/-- a slice in memory: n elements of sz cells each, the cells being xs -/
def SlV (W : World) (v : Value) (sz n : Nat) (xs : List Value) : Prop :=
  xs.length = n * sz ∧ ∃ a c, v = .slice a n c ∧ n ≤ c ∧ c ≤ maxLen ∧ (n = 0 ∨ ∃ b o, a = some ⟨b, o, none⟩ ∧ b < W.heap.size ∧ ∀ (j : Nat) (u : Value), xs[j]? = some u → W.cell? ⟨b, o + j, none⟩ = some u)
theorem SlV.keep {W W' : World} {v : Value} {sz n : Nat} {xs : List Value} (h : SlV W v sz n xs) (hB : Below W.heap.size W W') : SlV W' v sz n xs := by
  obtain ⟨h0, a, c, e, h1, h2, h3⟩ := h
  refine ⟨h0, a, c, e, h1, h2, ?_⟩
  rcases h3 with h3 | ⟨b, o, ea, hb, hc⟩
  · exact .inl h3
  · exact .inr ⟨b, o, ea, Nat.lt_of_lt_of_le hb hB.size, fun j u hu => (hB.cell (p := ⟨b, o + j, none⟩) hb).trans (hc j u hu)⟩
theorem SlV.keepB {B : Nat} {W W' : World} {v : Value} {sz n : Nat} {xs : List Value} (h : SlV W v sz n xs) (hB : Below B W W') (hz : W.heap.size ≤ B) : SlV W' v sz n xs := h.keep (hB.mono hz)
theorem SlV.nil (W : World) (sz : Nat) : SlV W (.slice none 0 0) sz 0 [] := ⟨by simp, none, 0, rfl, by omega, by unfold maxLen; omega, .inl rfl⟩
theorem SlV.of_own {W : World} {B : Nat} {e : TypeId} {sz n : Nat} {v : Value} {xs : List Value} (h : W.ownsRow B e sz v n xs) : SlV W v sz n xs := by
  refine ⟨h.1, ?_⟩
  rcases own_cells h with ⟨h0, hv⟩ | ⟨g, cap, hv, hn, hm, hg, hc⟩
  · subst h0
    exact ⟨none, 0, hv, by omega, by unfold maxLen; omega, .inl rfl⟩
  · exact ⟨some ⟨g, 0, none⟩, cap, hv, hn, hm, .inr ⟨g, 0, rfl, hg, fun j u hu => by rw [Nat.zero_add]; exact hc j u hu⟩⟩
/-- a slice over a block that is known -/
theorem SlV.of_block {W : World} {b : Nat} {cs : Array Value} {T : TypeId} {sz n c : Nat} (hb : W.heap[b]? = some (.cells cs T (0, 0))) (h1 : n ≤ c) (h2 : c ≤ maxLen) (hs : n * sz ≤ cs.size) : SlV W (.slice (some ⟨b, 0, none⟩) n c) sz n (cs.toList.take (n * sz)) := by
  refine ⟨by rw [List.length_take, Array.length_toList]; omega, _, c, rfl, h1, h2, .inr ⟨b, 0, rfl, lt_of_block hb, fun j u hu => ?_⟩⟩
  rw [List.getElem?_take] at hu
  split at hu
  · rw [Nat.zero_add]
    have := cell_of_row W b j cs T (0, 0) hb
    rw [this]
    simpa using hu
  · cases hu
/-- a cell of a list of elements that have sz cells each -/
theorem flat_at {α : Type} (f : α → List Value) (sz : Nat) (hf : ∀ x, (f x).length = sz) : ∀ (L : List α) (i j : Nat), j < sz → (L.flatMap f)[i * sz + j]? = (L[i]?).bind (fun x => (f x)[j]?)
  | [], i, j, _ => by simp
  | x :: r, 0, j, hj => by
    rw [List.flatMap_cons, Nat.zero_mul, Nat.zero_add, List.getElem?_append_left (by rw [hf]; exact hj)]
    rfl
  | x :: r, i + 1, j, hj => by
    have e : (i + 1) * sz + j = i * sz + j + (f x).length := by rw [hf, Nat.add_mul]; omega
    rw [List.flatMap_cons, e, List.getElem?_append_right (by omega), Nat.add_sub_cancel, flat_at f sz hf r i j hj]
    rfl
theorem flat_len {α : Type} (f : α → List Value) (sz : Nat) (hf : ∀ x, (f x).length = sz) : ∀ L : List α, (L.flatMap f).length = L.length * sz
  | [] => by simp
  | x :: r => by rw [List.flatMap_cons, List.length_append, hf, flat_len f sz hf r, List.length_cons, Nat.add_mul]; omega
end Go.Proofs.YtnffecoohkanhaaDoor.Px
