/- Maps that a call owns, read as functions on keys: what a look-up gives, what a store leaves. -/
import Derived.Test.YtdeompnaojiajaaDoorKa
import Derived.Maps.OwnOps
import Derived.Maps.OwnSet
import Derived.Maps.Views
import Derived.DeepKeys4
namespace Go.Proofs.YtdeompnaojiajaaDoor.Px
open Go.RowKit
open Go.Maps (Keyed)

/-- what a map reads as at each key -/
structure FnOf (D : DataW Unit) (g : Lit → Option (DataW Unit)) : Prop where
  isMap : Maps.IsMap D
  has : ∀ k, WideAt.IsKeyLit k → Maps.has D k = (g k).isSome
  val : ∀ k, WideAt.IsKeyLit k → ∀ z, D.atKey k z = (g k).getD z
theorem FnOf.empty : FnOf (.map []) (fun _ => none) := ⟨Maps.isMap_empty, fun _ _ => rfl, fun _ _ _ => rfl⟩
theorem FnOf.put {D : DataW Unit} {g : Lit → Option (DataW Unit)} (h : FnOf D g) {k : Lit} (hk : WideAt.IsKeyLit k) (d : DataW Unit) : FnOf (D.put k d) (fun x => if x.sameKey k = true then some d else g x) := by
  have hs : ∀ x : Lit, x.sameKey k = true ↔ x = k := fun x => ⟨WideAt.sameKey_eq, fun e => by rw [e]; exact WideAt.sameKey_self hk⟩
  refine ⟨h.isMap.put k d, fun x hx => ?_, fun x hx z => ?_⟩
  · by_cases e : x = k
    · rw [if_pos ((hs x).2 e)]
      subst e
      rw [Maps.has_put_same h.isMap hk]
      rfl
    · rw [if_neg (fun q => e ((hs x).1 q)), Maps.has_put_other e]
      exact h.has x hx
  · by_cases e : x = k
    · rw [if_pos ((hs x).2 e)]
      subst e
      rw [Maps.atKey_put_same h.isMap hk]
      rfl
    · rw [if_neg (fun q => e ((hs x).1 q)), Maps.atKey_put_other e]
      exact h.val x hx z
theorem plainElem_bool_inv {P : Program} {e : TypeId} (he : P.underlying e = some .bool) {v : Value} {z : DataW Unit × List MemPlace} (h : plainElem P e v = some z) : ∃ a, v = .bool a ∧ z = (.lit (.bool a), []) := by
  unfold plainElem at h
  rw [he] at h
  cases v <;> simp at h
  exact ⟨_, rfl, h.symm⟩
section
variable {P : Program} (w : World) {ops : Array Oper} {rest : List Oper} {o : Oper} {a : Act} {Q : Exit → Act → World → Prop}
/-- 'm[k]' at elements that are bools -/
theorem wpList_look_bool (hg : o.guard = none) (m x : Operand) (t : TypeId) (hop : o.op = Op.lookup t m x false)
    (k e : TypeId) (K : Keyed P k) (ht : P.underlying t = some (.map k e)) (he : P.underlying e = some .bool) (hz : (zeroValue e).run P w = .ok (.bool false) w) (b n : Nat) (D : DataW Unit) (g : Lit → Option (DataW Unit)) (hD : FnOf D g)
    (hm : a.eval m = .map (some b)) (hown : w.ownsMap P k (plainElem P e) b n D) (key : Value) (kl : Lit) (hx : a.eval x = key) (hkey : keyOf P k key = some kl) (c : Bool) (hc : (g kl).getD (.lit (.bool false)) = .lit (.bool c))
    (hK : wpList P ops Q rest (a.put o.dst (.bool c)) w) :
    wpList P ops Q (o :: rest) a w := by
  refine wpList_plain hg fun K' hK' => ?_
  obtain ⟨v, ps, hrun, hv⟩ := hown.lookup K ht hz (plainElem_bool he false) hkey
  obtain ⟨c', rfl, hc'⟩ := plainElem_bool_inv he hv
  rw [hD.val kl (K.key hkey), hc] at hc'
  obtain rfl : c = c' := by simpa using (congrArg Prod.fst hc')
  unfold Oper.wp
  simp [execOp, hop, hm, hx, hrun, Result.andThen]
  exact hK' _ _ hK
/-- 'm[k]' at elements that are integers -/
theorem wpList_look_int (hg : o.guard = none) (m x : Operand) (t : TypeId) (hop : o.op = Op.lookup t m x false)
    (k e : TypeId) (q : IntKind) (K : Keyed P k) (ht : P.underlying t = some (.map k e)) (he : P.underlying e = some (.int q)) (hz : (zeroValue e).run P w = .ok (.int q 0) w) (b n : Nat) (D : DataW Unit) (g : Lit → Option (DataW Unit)) (hD : FnOf D g)
    (hm : a.eval m = .map (some b)) (hown : w.ownsMap P k (plainElem P e) b n D) (key : Value) (kl : Lit) (hx : a.eval x = key) (hkey : keyOf P k key = some kl) (c : Int) (hc : (g kl).getD (.lit (.int q 0)) = .lit (.int q c))
    (hK : wpList P ops Q rest (a.put o.dst (.int q c)) w) :
    wpList P ops Q (o :: rest) a w :=
  wpList_lookup_own_int w hg m x t hop k e q K ht he hz b n D hm hown key kl hx hkey fun c' hat _ => by
    rw [hD.val kl (K.key hkey), hc] at hat
    obtain rfl : c = c' := by simpa using hat
    exact hK
/-- 'v, ok := m[k]' at elements that are integers -/
theorem wpList_look_ok_int (hg : o.guard = none) (m x : Operand) (t : TypeId) (hop : o.op = Op.lookup t m x true)
    (k e : TypeId) (q : IntKind) (K : Keyed P k) (ht : P.underlying t = some (.map k e)) (he : P.underlying e = some (.int q)) (hz : (zeroValue e).run P w = .ok (.int q 0) w) (b n : Nat) (D : DataW Unit) (g : Lit → Option (DataW Unit)) (hD : FnOf D g)
    (hm : a.eval m = .map (some b)) (hown : w.ownsMap P k (plainElem P e) b n D) (key : Value) (kl : Lit) (hx : a.eval x = key) (hkey : keyOf P k key = some kl) (c : Int) (hc : (g kl).getD (.lit (.int q 0)) = .lit (.int q c)) (r : Bool) (hr : (g kl).isSome = r)
    (hK : wpList P ops Q rest (a.put o.dst (.tuple #[.int q c, .bool r])) w) :
    wpList P ops Q (o :: rest) a w :=
  wpList_lookup_own_ok_int w hg m x t hop k e q K ht he hz b n D hm hown key kl hx hkey fun c' hat _ => by
    rw [hD.val kl (K.key hkey), hc] at hat
    obtain rfl : c = c' := by simpa using hat
    rw [hD.has kl (K.key hkey), hr]
    exact hK
end
theorem zero_bool (w : World) : (zeroValue 4).run Tryd.prog w = .ok (.bool false) w := by kernel_rfl
theorem zero_int (w : World) : (zeroValue 3).run Tryd.prog w = .ok (.int .i64 0) w := by kernel_rfl
/-- strings as keys -/
theorem str_keyed : Keyed Tryd.prog 9 := Maps.string_keyed Tryd.underlying9
theorem strKey_is {s : ByteArray} (h : s.size ≤ maxLen) : keyOf Tryd.prog 9 (.string s) = some (.string s.data.toList) := WideMaps.keyOf_string_mk Tryd.underlying9 h
theorem run_makeMap_hint {P : Program} {t k e : TypeId} (h : P.underlying t = some (.map k e)) (n : Int) (w : World) : (Instr.makeMap t (some (.int .i64 n))).run P w = .ok (.map (some w.heap.size)) (w.alloc (.map #[] 0)) := by
  simp [Instr.makeMap, run_underlying h, asInt, asIntOf]
theorem wf_64 {n : Int} (h : -9223372036854775808 ≤ n ∧ n ≤ 9223372036854775807) : (Lit.int .i64 n).wf = true := by
  have e := wrap64_wf n
  have : wrap64 n = n := by unfold wrap64; omega
  rwa [this] at e
end Go.Proofs.YtdeompnaojiajaaDoor.Px
