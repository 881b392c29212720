/- Sources in memory, and the maps from names to first indexes (chapter 15): what they read as. -/
import Derived.Test.YtnffecoohkanhaaGreatDoorM1
import Derived.Test.YtnffecoohkanhaaGreatDoorM2
import Derived.Test.YtnffecoohkanhaaGreatDoorYLkP
namespace Go.Proofs.YtnffecoohkanhaaGreatDoor.Px
open Go.RowKit
open Go.Maps (Keyed)

def keyN (l : List UInt8) : Lit := .string l
theorem keyN_same (a b : List UInt8) : (keyN a).sameKey (keyN b) = true ↔ a = b := ⟨fun h => by have := WideAt.sameKey_eq h; unfold keyN at this; simpa using this, fun e => by rw [e]; exact WideAt.sameKey_self trivial⟩
theorem keyN_is {l : List UInt8} (h : l.length ≤ maxLen) : keyOf Tryz.prog 9 (.string (bs l)) = some (keyN l) := strKey_is (s := bs l) h
theorem keyN_lit (l : List UInt8) : WideAt.IsKeyLit (keyN l) := trivial
section
variable {α : Type} [DecidableEq α]
theorem posA_cons (y : α) (r : List α) (x : α) : posA (y :: r) x = if y = x then 0 else posA r x + 1 := by
  unfold posA
  rw [List.idxOf_cons]
  by_cases h : y = x
  · subst h; simp
  · rw [if_neg h]
    have : (y == x) = false := by simpa using h
    rw [this]
    rfl
end
/-- the first of some names that has a key, counted from i on -/
def firstAt : Nat → List (List UInt8) → Lit → Option Nat
  | _, [], _ => none
  | i, z :: r, x => if x.sameKey (keyN z) = true then some i else firstAt (i + 1) r x
theorem firstAt_in : ∀ (Z : List (List UInt8)) (i : Nat) (n : List UInt8), firstAt i Z (keyN n) = if n ∈ Z then some (i + posA Z n) else none
  | [], _, _ => rfl
  | z :: r, i, n => by
    unfold firstAt
    rw [posA_cons]
    by_cases h : n = z
    · subst h
      rw [if_pos ((keyN_same n n).2 rfl), if_pos (List.mem_cons_self ..), if_pos rfl]
      rfl
    · have hz : ¬ z = n := fun q => h q.symm
      rw [if_neg (fun q => h ((keyN_same n z).1 q)), firstAt_in r (i + 1) n]
      by_cases hm : n ∈ r
      · rw [if_pos hm, if_pos (List.mem_cons_of_mem _ hm), if_neg hz]
        congr 1
        omega
      · rw [if_neg hm, if_neg (fun q => (List.mem_cons.1 q).elim h hm)]
theorem firstAt_snoc : ∀ (Z : List (List UInt8)) (i : Nat) (z : List UInt8) (x : Lit), firstAt i (Z ++ [z]) x = match firstAt i Z x with
    | some k => some k
    | none => if x.sameKey (keyN z) = true then some (i + Z.length) else none
  | [], i, z, x => by simp [firstAt]
  | y :: r, i, z, x => by
    rw [List.cons_append]
    unfold firstAt
    by_cases h : x.sameKey (keyN y) = true
    · rw [if_pos h, if_pos h]
    · rw [if_neg h, if_neg h, firstAt_snoc r (i + 1) z x, List.length_cons, show i + 1 + r.length = i + (r.length + 1) by omega]
/-- .. as a map reads -/
def firstG (Z : List (List UInt8)) (x : Lit) : Option (DataW Unit) := (firstAt 0 Z x).map (fun (i : Nat) => DataW.lit (Lit.int .i64 (i : Int)))
theorem firstG_nil : firstG [] = fun _ => none := rfl
theorem firstG_in (Z : List (List UInt8)) (n : List UInt8) : firstG Z (keyN n) = if n ∈ Z then some (.lit (.int .i64 (posA Z n : Int))) else none := by
  unfold firstG
  rw [firstAt_in]
  split <;> simp
theorem firstG_old {Z : List (List UInt8)} {z : List UInt8} (h : z ∈ Z) : firstG (Z ++ [z]) = firstG Z := by
  funext x
  unfold firstG
  rw [firstAt_snoc]
  cases e : firstAt 0 Z x with
  | some k => rfl
  | none =>
    dsimp only
    by_cases hx : x.sameKey (keyN z) = true
    · exfalso
      have hk := WideAt.sameKey_eq hx
      subst hk
      rw [firstAt_in, if_pos h] at e
      cases e
    · rw [if_neg hx]
theorem firstG_new {Z : List (List UInt8)} {z : List UInt8} (h : z ∉ Z) : firstG (Z ++ [z]) = fun x => if x.sameKey (keyN z) = true then some (.lit (.int .i64 (Z.length : Int))) else firstG Z x := by
  funext x
  unfold firstG
  rw [firstAt_snoc]
  by_cases hx : x.sameKey (keyN z) = true
  · have hk := WideAt.sameKey_eq hx
    subst hk
    rw [firstAt_in, if_neg h]
    dsimp only
    rw [if_pos hx, if_pos hx]
    simp
  · rw [if_neg hx]
    cases e : firstAt 0 Z x with
    | some k => rw [if_neg hx]
    | none =>
      dsimp only
      rw [if_neg hx]
/-- what a map reads as behind a delete -/
theorem FnOf.del {D : DataW Unit} {g : Lit → Option (DataW Unit)} (h : FnOf D g) {k : Lit} (hk : WideAt.IsKeyLit k) : FnOf (D.del k) (fun x => if x.sameKey k = true then none else g x) := by
  have hs : ∀ x : Lit, x.sameKey k = true ↔ x = k := fun x => ⟨WideAt.sameKey_eq, fun e => by rw [e]; exact WideAt.sameKey_self hk⟩
  refine ⟨h.isMap.del k, fun x hx => ?_, fun x hx z => ?_⟩
  · by_cases e : x = k
    · rw [if_pos ((hs x).2 e)]
      subst e
      rw [Maps.has_del_same]
      rfl
    · rw [if_neg (fun q => e ((hs x).1 q)), Maps.has_del_other e]
      exact h.has x hx
  · by_cases e : x = k
    · rw [if_pos ((hs x).2 e)]
      subst e
      rw [Maps.atKey_del_same]
      rfl
    · rw [if_neg (fun q => e ((hs x).1 q)), Maps.atKey_del_other e]
      exact h.val x hx z
/-- the links that have not been passed yet, as a map reads -/
def restG (N used : List (List UInt8)) (x : Lit) : Option (DataW Unit) := if used.any (fun u => x.sameKey (keyN u)) = true then none else firstG N x
theorem restG_nil (N : List (List UInt8)) : restG N [] = firstG N := rfl
theorem restG_in (N used : List (List UInt8)) (n : List UInt8) : restG N used (keyN n) = if n ∈ used then none else if n ∈ N then some (.lit (.int .i64 (posA N n : Int))) else none := by
  unfold restG
  have : used.any (fun u => (keyN n).sameKey (keyN u)) = decide (n ∈ used) := by
    rw [Bool.eq_iff_iff, List.any_eq_true, decide_eq_true_eq]
    constructor
    · rintro ⟨u, hu, h⟩
      rw [(keyN_same n u).1 h]
      exact hu
    · exact fun h => ⟨n, h, (keyN_same n n).2 rfl⟩
  rw [this, firstG_in]
  by_cases h : n ∈ used
  · rw [if_pos h, if_pos (by simpa using h)]
  · rw [if_neg h, if_neg (by simpa using h)]
theorem restG_del (N used : List (List UInt8)) (n : List UInt8) : (fun x : Lit => if x.sameKey (keyN n) = true then none else restG N used x) = restG N (n :: used) := by
  funext x
  unfold restG
  by_cases h : x.sameKey (keyN n) = true
  · rw [if_pos h, if_pos (by simp [h])]
  · rw [if_neg h]
    have : ((n :: used).any fun u => x.sameKey (keyN u)) = used.any fun u => x.sameKey (keyN u) := by simp [h]
    rw [this]
/-- a zone: its name, and its eras as a slice -/
abbrev Zo := List UInt8 × (Option Addr × Nat × Nat)
def zcells (z : Zo) : List Value := [.string (bs z.1), .slice z.2.1 z.2.2.1 z.2.2.2]
def kcells (p : List UInt8 × List UInt8) : List Value := [.string (bs p.2), .string (bs p.1)]
def znames (Z : List (Zo)) : List (List UInt8) := Z.map Prod.fst
/-- a slice of zones, a slice of links in memory -/
def ZoV (W : World) (v : Value) (Z : List (Zo)) : Prop := SlV W v 2 Z.length (Z.flatMap zcells)
def LkV (W : World) (v : Value) (L : List (List UInt8 × List UInt8)) : Prop := SlV W v 2 L.length (L.flatMap kcells)
theorem ZoV.keep {W W' : World} {v : Value} {Z : List (Zo)} (h : ZoV W v Z) (hB : Below W.heap.size W W') : ZoV W' v Z := SlV.keep h hB
theorem LkV.keep {W W' : World} {v : Value} {L : List (List UInt8 × List UInt8)} (h : LkV W v L) (hB : Below W.heap.size W W') : LkV W' v L := SlV.keep h hB
theorem zo_at (Z : List (Zo)) {i : Nat} {z : Zo} (h : Z[i]? = some z) : (Z.flatMap zcells)[i * 2 + 0]? = some (.string (bs z.1)) ∧ (Z.flatMap zcells)[i * 2 + 1]? = some (.slice z.2.1 z.2.2.1 z.2.2.2) := by
  refine ⟨?_, ?_⟩ <;> (rw [flat_at zcells 2 (fun _ => rfl) Z i _ (by omega), h]; rfl)
theorem lk_at (L : List (List UInt8 × List UInt8)) {i : Nat} {p : List UInt8 × List UInt8} (h : L[i]? = some p) : (L.flatMap kcells)[i * 2 + 0]? = some (.string (bs p.2)) ∧ (L.flatMap kcells)[i * 2 + 1]? = some (.string (bs p.1)) := by
  refine ⟨?_, ?_⟩ <;> (rw [flat_at kcells 2 (fun _ => rfl) L i _ (by omega), h]; rfl)
theorem SlV.slA {W : World} {v : Value} {sz n : Nat} {xs : List Value} (h : SlV W v sz n xs) : ∃ a c, v = .slice a n c ∧ n ≤ c ∧ c ≤ maxLen := by
  obtain ⟨_, a, c, e, h1, h2, _⟩ := h
  exact ⟨a, c, e, h1, h2⟩
theorem SlV.allA {W : World} {v : Value} {sz n : Nat} {xs : List Value} (h : SlV W v sz n xs) (h0 : 0 < n) : ∃ b o c, v = .slice (some ⟨b, o, none⟩) n c ∧ n ≤ c ∧ c ≤ maxLen ∧ b < W.heap.size ∧ ∀ (j : Nat) (u : Value), xs[j]? = some u → W.cell? ⟨b, o + j, none⟩ = some u := by
  obtain ⟨_, a, c, e, h1, h2, h3⟩ := h
  rcases h3 with h3 | ⟨b, o, ea, hb, hc⟩
  · omega
  · subst ea
    exact ⟨b, o, c, e, h1, h2, hb, hc⟩
/-- a source in memory -/
structure SrcV (W : World) (zv lv : Value) (Z : List (Zo)) (L : List (List UInt8 × List UInt8)) : Prop where
  zo : ZoV W zv Z
  lk : LkV W lv L
  zn : ∀ z ∈ Z, z.1.length ≤ maxLen
  ln : ∀ p ∈ L, p.1.length ≤ maxLen ∧ p.2.length ≤ maxLen
theorem SrcV.keep {W W' : World} {zv lv : Value} {Z : List (Zo)} {L : List (List UInt8 × List UInt8)} (h : SrcV W zv lv Z L) (hB : Below W.heap.size W W') : SrcV W' zv lv Z L := ⟨h.zo.keep hB, h.lk.keep hB, h.zn, h.ln⟩
end Go.Proofs.YtnffecoohkanhaaGreatDoor.Px
