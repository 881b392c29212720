/- Names, links and what they stand for (chapter 15), plain: the program's way and the document's are the same. No program in sight. Sources in memory, and the maps from names to first indexes (chapter 15): what they read as. The functions zones and targets of package links: maps from names to first indexes. -/
import Derived.Lib.Bytealg
import Derived.Test.YtnffecoohkanhaaDoorM1
import Derived.Test.YtnffecoohkanhaaDoorM2
namespace Go.Proofs.YtnffecoohkanhaaDoor.Lk

abbrev B := List UInt8
/-- the names of links -/
def nm (L : List (B × B)) : List B := L.map Prod.fst
/-- the target of the first link with a name -/
def tgt (L : List (B × B)) (n : B) : B := (L.getD ((nm L).idxOf n) ([], [])).2
section
variable (Z : List B) (L : List (B × B))
/-- what a name stands for, as the document follows it -/
def findG : Nat → B → Nat × Int
  | 0, _ => (0, 11)
  | k + 1, n => if n ∈ Z then (Z.idxOf n, 0) else if n ∈ nm L then findG k (tgt L n) else (0, 9)
/-- .. as the program follows it: each link once -/
def followG : Nat → List B → B → Nat × Int
  | 0, _, _ => (0, 11)
  | k + 1, used, n => if n ∈ Z then (Z.idxOf n, 0) else if n ∈ nm L then (if n ∈ used then (0, 11) else followG k (n :: used) (tgt L n)) else (0, 9)
def findL (n : B) : Nat × Int := findG Z L (L.length + 1) n
theorem loop_closed {S : List B} (h : ∀ x ∈ S, x ∉ Z ∧ x ∈ nm L ∧ tgt L x ∈ S) : ∀ (k : Nat) (n : B), n ∈ S → findG Z L k n = (0, 11)
  | 0, _, _ => rfl
  | k + 1, n, hn => by
    obtain ⟨h1, h2, h3⟩ := h n hn
    unfold findG
    rw [if_neg h1, if_pos h2]
    exact loop_closed h k _ h3
theorem nodup_le {α : Type} [DecidableEq α] : ∀ (l m : List α), l.Nodup → (∀ x ∈ l, x ∈ m) → l.length ≤ m.length
  | [], m, _, _ => by simp
  | a :: r, m, h, hs => by
    obtain ⟨h1, h2⟩ := List.nodup_cons.1 h
    have ha := hs a (List.mem_cons_self ..)
    have ih := nodup_le r (m.erase a) h2 (fun x hx => by
      have hne : x ≠ a := fun e => h1 (e ▸ hx)
      exact (List.mem_erase_of_ne hne).2 (hs x (List.mem_cons_of_mem _ hx)))
    have hl := List.length_erase_of_mem ha
    have hp := List.length_pos_of_mem ha
    rw [List.length_cons]
    omega
theorem nm_len : (nm L).length = L.length := by unfold nm; rw [List.length_map]
/-- what has been passed on the way to a name -/
structure Trail (used : List B) (n : B) : Prop where
  nodup : used.Nodup
  way : ∀ x ∈ used, x ∉ Z ∧ x ∈ nm L ∧ (tgt L x = n ∨ tgt L x ∈ used)
theorem Trail.nil (n : B) : Trail Z L [] n := ⟨List.nodup_nil, fun x hx => by cases hx⟩
theorem Trail.next {used : List B} {n : B} (h : Trail Z L used n) (h1 : n ∉ Z) (h2 : n ∈ nm L) (h3 : n ∉ used) : Trail Z L (n :: used) (tgt L n) :=
  ⟨List.nodup_cons.2 ⟨h3, h.nodup⟩, fun x hx => by
    rcases List.mem_cons.1 hx with rfl | hx
    · exact ⟨h1, h2, .inl rfl⟩
    · obtain ⟨a, b, c⟩ := h.way x hx
      refine ⟨a, b, .inr ?_⟩
      rcases c with c | c
      · rw [c]; exact List.mem_cons_self ..
      · exact List.mem_cons_of_mem _ c⟩
theorem Trail.len {used : List B} {n : B} (h : Trail Z L used n) : used.length ≤ L.length := by
  have := nodup_le used (nm L) h.nodup (fun x hx => (h.way x hx).2.1)
  rwa [nm_len] at this
theorem Trail.loop {used : List B} {n : B} (h : Trail Z L used n) (hn : n ∈ used) (k : Nat) : findG Z L k n = (0, 11) :=
  loop_closed Z L (S := used) (fun x hx => by
    obtain ⟨a, b, c⟩ := h.way x hx
    refine ⟨a, b, ?_⟩
    rcases c with c | c
    · rw [c]; exact hn
    · exact c) k n hn
theorem follow_find : ∀ (k : Nat) (used : List B) (n : B), Trail Z L used n → followG Z L k used n = findG Z L k n
  | 0, _, _, _ => rfl
  | k + 1, used, n, h => by
    unfold followG findG
    by_cases h1 : n ∈ Z
    · rw [if_pos h1, if_pos h1]
    · rw [if_neg h1, if_neg h1]
      by_cases h2 : n ∈ nm L
      · rw [if_pos h2, if_pos h2]
        by_cases h3 : n ∈ used
        · rw [if_pos h3]
          have := h.loop Z L h3 (k + 1)
          unfold findG at this
          rw [if_neg h1, if_pos h2] at this
          exact this.symm
        · rw [if_neg h3]
          exact follow_find k _ _ (h.next Z L h1 h2 h3)
      · rw [if_neg h2, if_neg h2]
/-- the first index at which something is wrong -/
def scan (f : Nat → Int) (n : Nat) : Option Nat := (List.range n).find? (fun i => decide (f i ≠ 0))
theorem scan_none {f : Nat → Int} {n : Nat} (h : ∀ j, j < n → f j = 0) : scan f n = none := by
  unfold scan
  rw [List.find?_eq_none]
  intro x hx
  simpa using h x (List.mem_range.1 hx)
theorem scan_some {f : Nat → Int} {n i : Nat} (hi : i < n) (h0 : f i ≠ 0) (h : ∀ j, j < i → f j = 0) : scan f n = some i := by
  unfold scan
  rw [List.find?_range_eq_some]
  refine ⟨by simpa using h0, by simpa using hi, fun j hj => by simpa using h j hj⟩
variable (ok : B → Bool)
/-- the error of a zone with an index -/
def zoneE (i : Nat) : Int := if ok (Z.getD i []) = false then 9 else if Z.idxOf (Z.getD i []) ≠ i then 10 else 0
/-- the error of a link with an index -/
def linkE (i : Nat) : Int := if ok ((nm L).getD i []) = false then 9 else if (nm L).getD i [] ∈ Z ∨ (nm L).idxOf ((nm L).getD i []) ≠ i then 10
  else if (L.getD i ([], [])).2 ∉ Z ∧ (L.getD i ([], [])).2 ∉ nm L then 9 else 0
def loopE (i : Nat) : Int := if (findL Z L ((nm L).getD i [])).2 = 11 then 11 else 0
/-- the place of what is wrong, and the error -/
def checkL : (Int × Int) × Int :=
  match scan (zoneE Z ok) Z.length with
  | some i => ((2, (i : Int)), zoneE Z ok i)
  | none => match scan (linkE Z L ok) L.length with
    | some i => ((3, (i : Int)), linkE Z L ok i)
    | none => match scan (loopE Z L) L.length with
      | some i => ((3, (i : Int)), 11)
      | none => ((0, 0), 0)
theorem check_zone {i : Nat} (hi : i < Z.length) (h0 : zoneE Z ok i ≠ 0) (h : ∀ j, j < i → zoneE Z ok j = 0) : checkL Z L ok = ((2, (i : Int)), zoneE Z ok i) := by
  unfold checkL
  rw [scan_some hi h0 h]
theorem check_link (hz : ∀ j, j < Z.length → zoneE Z ok j = 0) {i : Nat} (hi : i < L.length) (h0 : linkE Z L ok i ≠ 0) (h : ∀ j, j < i → linkE Z L ok j = 0) : checkL Z L ok = ((3, (i : Int)), linkE Z L ok i) := by
  unfold checkL
  rw [scan_none hz, scan_some hi h0 h]
theorem check_loop (hz : ∀ j, j < Z.length → zoneE Z ok j = 0) (hl : ∀ j, j < L.length → linkE Z L ok j = 0) {i : Nat} (hi : i < L.length) (h0 : (findL Z L ((nm L).getD i [])).2 = 11) (h : ∀ j, j < i → (findL Z L ((nm L).getD j [])).2 ≠ 11) : checkL Z L ok = ((3, (i : Int)), 11) := by
  unfold checkL
  rw [scan_none hz, scan_none hl, scan_some hi (by unfold loopE; rw [if_pos h0]; decide) (fun j hj => by unfold loopE; rw [if_neg (h j hj)])]
theorem check_fine (hz : ∀ j, j < Z.length → zoneE Z ok j = 0) (hl : ∀ j, j < L.length → linkE Z L ok j = 0) (h : ∀ j, j < L.length → (findL Z L ((nm L).getD j [])).2 ≠ 11) : checkL Z L ok = ((0, 0), 0) := by
  unfold checkL
  rw [scan_none hz, scan_none hl, scan_none (fun j hj => by unfold loopE; rw [if_neg (h j hj)])]
end
/-- the least names, each once, that some names have: what a growing list of them is -/
structure Least (all out : List B) : Prop where
  incr : out.Pairwise (fun a b => a < b)
  sub : ∀ x ∈ out, x ∈ all
  rest : ∀ x ∈ all, x ∉ out → ∀ y ∈ out, y < x
/-- two lists that increase and have the same elements are one -/
theorem incr_unique : ∀ {a b : List B}, a.Pairwise (fun x y => x < y) → b.Pairwise (fun x y => x < y) → (∀ x, x ∈ a ↔ x ∈ b) → a = b
  | [], [], _, _, _ => rfl
  | [], y :: b, _, _, h => by have := (h y).2 (List.mem_cons_self ..); cases this
  | x :: a, [], _, _, h => by have := (h x).1 (List.mem_cons_self ..); cases this
  | x :: a, y :: b, ha, hb, h => by
    obtain ⟨ha1, ha2⟩ := List.pairwise_cons.1 ha
    obtain ⟨hb1, hb2⟩ := List.pairwise_cons.1 hb
    have irr : ∀ z : B, ¬ z < z := fun z => List.lt_irrefl z
    have e : x = y := by
      rcases List.mem_cons.1 ((h x).1 (List.mem_cons_self ..)) with e | hx
      · exact e
      · rcases List.mem_cons.1 ((h y).2 (List.mem_cons_self ..)) with e | hy
        · exact e.symm
        · exact absurd (List.lt_trans (hb1 x hx) (ha1 y hy)) (irr y)
    subst e
    have hab : ∀ z, z ∈ a ↔ z ∈ b := by
      intro z
      constructor
      · intro hz
        rcases List.mem_cons.1 ((h z).1 (List.mem_cons_of_mem _ hz)) with e | hz'
        · subst e; exact absurd (ha1 _ hz) (irr _)
        · exact hz'
      · intro hz
        rcases List.mem_cons.1 ((h z).2 (List.mem_cons_of_mem _ hz)) with e | hz'
        · subst e; exact absurd (hb1 _ hz) (irr _)
        · exact hz'
    rw [incr_unique ha2 hb2 hab]
theorem lt_of {a b : B} (h : a ≤ b) (hne : a ≠ b) : a < b := by
  rcases Decidable.em (a < b) with h1 | h1
  · exact h1
  · exact absurd (List.le_antisymm h (List.not_lt.1 h1)) hne
/-- names sorted, each once -/
theorem sorted_incr {ss : List B} (hn : ss.Nodup) : (ss.mergeSort (fun x y => decide (x ≤ y))).Pairwise (fun a b => a < b) := by
  have h1 : (ss.mergeSort (fun x y => decide (x ≤ y))).Pairwise (fun a b => decide (a ≤ b) = true) :=
    List.pairwise_mergeSort (le := fun (x y : B) => decide (x ≤ y)) (fun a b c h1 h2 => decide_eq_true (List.le_trans (of_decide_eq_true h1) (of_decide_eq_true h2))) (fun a b => by
      rcases List.le_total a b with h | h
      · rw [decide_eq_true h]; rfl
      · rw [decide_eq_true h, Bool.or_true]) ss
  have h2 : (ss.mergeSort (fun x y => decide (x ≤ y))).Nodup := (List.mergeSort_perm ss _).nodup_iff.2 hn
  exact h1.imp₂ (fun a b h h' => lt_of (of_decide_eq_true h) h') h2
def dd : List B → List B
  | [] => []
  | x :: r => if x ∈ r then dd r else x :: dd r
theorem dd_mem : ∀ (l : List B) (x : B), x ∈ dd l ↔ x ∈ l
  | [], x => Iff.rfl
  | y :: r, x => by
    unfold dd
    by_cases h : y ∈ r
    · rw [if_pos h, dd_mem r x, List.mem_cons]
      constructor
      · exact .inr
      · rintro (rfl | h2)
        · exact h
        · exact h2
    · rw [if_neg h, List.mem_cons, List.mem_cons, dd_mem r x]
theorem dd_nodup : ∀ l : List B, (dd l).Nodup
  | [] => List.nodup_nil
  | y :: r => by
    unfold dd
    by_cases h : y ∈ r
    · rw [if_pos h]; exact dd_nodup r
    · rw [if_neg h]
      exact List.nodup_cons.2 ⟨fun hm => h ((dd_mem r y).1 hm), dd_nodup r⟩
/-- all names, sorted -/
def namesL (Z : List B) (L : List (B × B)) : List B := (dd (Z ++ nm L)).mergeSort (fun x y => decide (x ≤ y))
theorem names_incr (Z : List B) (L : List (B × B)) : (namesL Z L).Pairwise (fun a b => a < b) := sorted_incr (dd_nodup _)
theorem names_mem (Z : List B) (L : List (B × B)) (x : B) : x ∈ namesL Z L ↔ x ∈ Z ∨ x ∈ nm L := by
  unfold namesL
  rw [(List.mergeSort_perm _ _).mem_iff, dd_mem, List.mem_append]
theorem names_of {Z : List B} {L : List (B × B)} {ss : List B} (hn : ss.Nodup) (hm : ∀ x, x ∈ ss ↔ x ∈ Z ∨ x ∈ nm L) : ss.mergeSort (fun x y => decide (x ≤ y)) = namesL Z L :=
  incr_unique (sorted_incr hn) (names_incr Z L) (fun x => by rw [(List.mergeSort_perm _ _).mem_iff, hm, names_mem])
theorem names_least {Z : List B} {L : List (B × B)} {out : List B} (h : Least (Z ++ nm L) out) (ha : ∀ x ∈ Z ++ nm L, x ∈ out) : out = namesL Z L :=
  incr_unique h.incr (names_incr Z L) (fun x => by
    rw [names_mem, ← List.mem_append]
    exact ⟨h.sub x, ha x⟩)
theorem Least.nil (all : List B) : Least all [] := ⟨List.Pairwise.nil, (fun _ h => by cases h), fun _ _ _ _ h => by cases h⟩
/-- the least name that is not there yet comes next -/
theorem Least.next {all out : List B} {x : B} (h : Least all out) (hx : x ∈ all) (hn : x ∉ out) (hl : ∀ y ∈ all, y ∉ out → x ≤ y) : Least all (out ++ [x]) := by
  refine ⟨List.pairwise_append.2 ⟨h.incr, List.pairwise_singleton _ _, fun a ha b hb => ?_⟩, fun y hy => ?_, fun y hy hny z hz => ?_⟩
  · rw [List.mem_singleton] at hb
    subst hb
    exact h.rest b hx hn a ha
  · rcases List.mem_append.1 hy with hy | hy
    · exact h.sub y hy
    · rw [List.mem_singleton] at hy
      exact hy ▸ hx
  · have hyo : y ∉ out := fun q => hny (List.mem_append_left _ q)
    have hyx : x ≠ y := fun e => hny (by subst e; simp)
    rcases List.mem_append.1 hz with hz | hz
    · exact h.rest y hy hyo z hz
    · rw [List.mem_singleton] at hz
      subst hz
      exact lt_of (hl y hy hyo) hyx
end Go.Proofs.YtnffecoohkanhaaDoor.Lk
namespace Go.Proofs.YtnffecoohkanhaaDoor.Px
open Go.RowKit
open Go.Maps (Keyed)

def keyN (l : List UInt8) : Lit := .string l
theorem keyN_same (a b : List UInt8) : (keyN a).sameKey (keyN b) = true ↔ a = b := ⟨fun h => by have := WideAt.sameKey_eq h; unfold keyN at this; simpa using this, fun e => by rw [e]; exact WideAt.sameKey_self trivial⟩
theorem keyN_is {l : List UInt8} (h : l.length ≤ maxLen) : keyOf Tryd.prog 9 (.string (bs l)) = some (keyN l) := strKey_is (s := bs l) h
theorem keyN_lit (l : List UInt8) : WideAt.IsKeyLit (keyN l) := trivial
section
variable {α : Type} [DecidableEq α]
theorem posA_cons (y : α) (r : List α) (x : α) : posA (y :: r) x = if y = x then 0 else posA r x + 1 := by
  unfold posA
  rw [List.idxOf_cons]
  by_cases h : y = x
  · subst h; simp
  · rw [if_neg h]
    have : (y == x) = false := by simpa using h
    rw [this]
    rfl
end
/-- the first of some names that has a key, counted from i on -/
def firstAt : Nat → List (List UInt8) → Lit → Option Nat
  | _, [], _ => none
  | i, z :: r, x => if x.sameKey (keyN z) = true then some i else firstAt (i + 1) r x
theorem firstAt_in : ∀ (Z : List (List UInt8)) (i : Nat) (n : List UInt8), firstAt i Z (keyN n) = if n ∈ Z then some (i + posA Z n) else none
  | [], _, _ => rfl
  | z :: r, i, n => by
    unfold firstAt
    rw [posA_cons]
    by_cases h : n = z
    · subst h
      rw [if_pos ((keyN_same n n).2 rfl), if_pos (List.mem_cons_self ..), if_pos rfl]
      rfl
    · have hz : ¬ z = n := fun q => h q.symm
      rw [if_neg (fun q => h ((keyN_same n z).1 q)), firstAt_in r (i + 1) n]
      by_cases hm : n ∈ r
      · rw [if_pos hm, if_pos (List.mem_cons_of_mem _ hm), if_neg hz]
        congr 1
        omega
      · rw [if_neg hm, if_neg (fun q => (List.mem_cons.1 q).elim h hm)]
theorem firstAt_snoc : ∀ (Z : List (List UInt8)) (i : Nat) (z : List UInt8) (x : Lit), firstAt i (Z ++ [z]) x = match firstAt i Z x with
    | some k => some k
    | none => if x.sameKey (keyN z) = true then some (i + Z.length) else none
  | [], i, z, x => by simp [firstAt]
  | y :: r, i, z, x => by
    rw [List.cons_append]
    unfold firstAt
    by_cases h : x.sameKey (keyN y) = true
    · rw [if_pos h, if_pos h]
    · rw [if_neg h, if_neg h, firstAt_snoc r (i + 1) z x, List.length_cons, show i + 1 + r.length = i + (r.length + 1) by omega]
/-- .. as a map reads -/
def firstG (Z : List (List UInt8)) (x : Lit) : Option (DataW Unit) := (firstAt 0 Z x).map (fun (i : Nat) => DataW.lit (Lit.int .i64 (i : Int)))
theorem firstG_nil : firstG [] = fun _ => none := rfl
theorem firstG_in (Z : List (List UInt8)) (n : List UInt8) : firstG Z (keyN n) = if n ∈ Z then some (.lit (.int .i64 (posA Z n : Int))) else none := by
  unfold firstG
  rw [firstAt_in]
  split <;> simp
theorem firstG_old {Z : List (List UInt8)} {z : List UInt8} (h : z ∈ Z) : firstG (Z ++ [z]) = firstG Z := by
  funext x
  unfold firstG
  rw [firstAt_snoc]
  cases e : firstAt 0 Z x with
  | some k => rfl
  | none =>
    dsimp only
    by_cases hx : x.sameKey (keyN z) = true
    · exfalso
      have hk := WideAt.sameKey_eq hx
      subst hk
      rw [firstAt_in, if_pos h] at e
      cases e
    · rw [if_neg hx]
theorem firstG_new {Z : List (List UInt8)} {z : List UInt8} (h : z ∉ Z) : firstG (Z ++ [z]) = fun x => if x.sameKey (keyN z) = true then some (.lit (.int .i64 (Z.length : Int))) else firstG Z x := by
  funext x
  unfold firstG
  rw [firstAt_snoc]
  by_cases hx : x.sameKey (keyN z) = true
  · have hk := WideAt.sameKey_eq hx
    subst hk
    rw [firstAt_in, if_neg h]
    dsimp only
    rw [if_pos hx, if_pos hx]
    simp
  · rw [if_neg hx]
    cases e : firstAt 0 Z x with
    | some k => rw [if_neg hx]
    | none =>
      dsimp only
      rw [if_neg hx]
/-- what a map reads as behind a delete -/
theorem FnOf.del {D : DataW Unit} {g : Lit → Option (DataW Unit)} (h : FnOf D g) {k : Lit} (hk : WideAt.IsKeyLit k) : FnOf (D.del k) (fun x => if x.sameKey k = true then none else g x) := by
  have hs : ∀ x : Lit, x.sameKey k = true ↔ x = k := fun x => ⟨WideAt.sameKey_eq, fun e => by rw [e]; exact WideAt.sameKey_self hk⟩
  refine ⟨h.isMap.del k, fun x hx => ?_, fun x hx z => ?_⟩
  · by_cases e : x = k
    · rw [if_pos ((hs x).2 e)]
      subst e
      rw [Maps.has_del_same]
      rfl
    · rw [if_neg (fun q => e ((hs x).1 q)), Maps.has_del_other e]
      exact h.has x hx
  · by_cases e : x = k
    · rw [if_pos ((hs x).2 e)]
      subst e
      rw [Maps.atKey_del_same]
      rfl
    · rw [if_neg (fun q => e ((hs x).1 q)), Maps.atKey_del_other e]
      exact h.val x hx z
/-- the links that have not been passed yet, as a map reads -/
def restG (N used : List (List UInt8)) (x : Lit) : Option (DataW Unit) := if used.any (fun u => x.sameKey (keyN u)) = true then none else firstG N x
theorem restG_nil (N : List (List UInt8)) : restG N [] = firstG N := rfl
theorem restG_in (N used : List (List UInt8)) (n : List UInt8) : restG N used (keyN n) = if n ∈ used then none else if n ∈ N then some (.lit (.int .i64 (posA N n : Int))) else none := by
  unfold restG
  have : used.any (fun u => (keyN n).sameKey (keyN u)) = decide (n ∈ used) := by
    rw [Bool.eq_iff_iff, List.any_eq_true, decide_eq_true_eq]
    constructor
    · rintro ⟨u, hu, h⟩
      rw [(keyN_same n u).1 h]
      exact hu
    · exact fun h => ⟨n, h, (keyN_same n n).2 rfl⟩
  rw [this, firstG_in]
  by_cases h : n ∈ used
  · rw [if_pos h, if_pos (by simpa using h)]
  · rw [if_neg h, if_neg (by simpa using h)]
theorem restG_del (N used : List (List UInt8)) (n : List UInt8) : (fun x : Lit => if x.sameKey (keyN n) = true then none else restG N used x) = restG N (n :: used) := by
  funext x
  unfold restG
  by_cases h : x.sameKey (keyN n) = true
  · rw [if_pos h, if_pos (by simp [h])]
  · rw [if_neg h]
    have : ((n :: used).any fun u => x.sameKey (keyN u)) = used.any fun u => x.sameKey (keyN u) := by simp [h]
    rw [this]
/-- a zone: its name, and its eras as a slice -/
abbrev Zo := List UInt8 × (Option Addr × Nat × Nat)
def zcells (z : Zo) : List Value := [.string (bs z.1), .slice z.2.1 z.2.2.1 z.2.2.2]
def kcells (p : List UInt8 × List UInt8) : List Value := [.string (bs p.2), .string (bs p.1)]
def znames (Z : List (Zo)) : List (List UInt8) := Z.map Prod.fst
/-- a slice of zones, a slice of links in memory -/
def ZoV (W : World) (v : Value) (Z : List (Zo)) : Prop := SlV W v 2 Z.length (Z.flatMap zcells)
def LkV (W : World) (v : Value) (L : List (List UInt8 × List UInt8)) : Prop := SlV W v 2 L.length (L.flatMap kcells)
theorem ZoV.keep {W W' : World} {v : Value} {Z : List (Zo)} (h : ZoV W v Z) (hB : Below W.heap.size W W') : ZoV W' v Z := SlV.keep h hB
theorem LkV.keep {W W' : World} {v : Value} {L : List (List UInt8 × List UInt8)} (h : LkV W v L) (hB : Below W.heap.size W W') : LkV W' v L := SlV.keep h hB
theorem zo_at (Z : List (Zo)) {i : Nat} {z : Zo} (h : Z[i]? = some z) : (Z.flatMap zcells)[i * 2 + 0]? = some (.string (bs z.1)) ∧ (Z.flatMap zcells)[i * 2 + 1]? = some (.slice z.2.1 z.2.2.1 z.2.2.2) := by
  refine ⟨?_, ?_⟩ <;> (rw [flat_at zcells 2 (fun _ => rfl) Z i _ (by omega), h]; rfl)
theorem lk_at (L : List (List UInt8 × List UInt8)) {i : Nat} {p : List UInt8 × List UInt8} (h : L[i]? = some p) : (L.flatMap kcells)[i * 2 + 0]? = some (.string (bs p.2)) ∧ (L.flatMap kcells)[i * 2 + 1]? = some (.string (bs p.1)) := by
  refine ⟨?_, ?_⟩ <;> (rw [flat_at kcells 2 (fun _ => rfl) L i _ (by omega), h]; rfl)
theorem SlV.slA {W : World} {v : Value} {sz n : Nat} {xs : List Value} (h : SlV W v sz n xs) : ∃ a c, v = .slice a n c ∧ n ≤ c ∧ c ≤ maxLen := by
  obtain ⟨_, a, c, e, h1, h2, _⟩ := h
  exact ⟨a, c, e, h1, h2⟩
theorem SlV.allA {W : World} {v : Value} {sz n : Nat} {xs : List Value} (h : SlV W v sz n xs) (h0 : 0 < n) : ∃ b o c, v = .slice (some ⟨b, o, none⟩) n c ∧ n ≤ c ∧ c ≤ maxLen ∧ b < W.heap.size ∧ ∀ (j : Nat) (u : Value), xs[j]? = some u → W.cell? ⟨b, o + j, none⟩ = some u := by
  obtain ⟨_, a, c, e, h1, h2, h3⟩ := h
  rcases h3 with h3 | ⟨b, o, ea, hb, hc⟩
  · omega
  · subst ea
    exact ⟨b, o, c, e, h1, h2, hb, hc⟩
/-- a source in memory -/
structure SrcV (W : World) (zv lv : Value) (Z : List (Zo)) (L : List (List UInt8 × List UInt8)) : Prop where
  zo : ZoV W zv Z
  lk : LkV W lv L
  zn : ∀ z ∈ Z, z.1.length ≤ maxLen
  ln : ∀ p ∈ L, p.1.length ≤ maxLen ∧ p.2.length ≤ maxLen
theorem SrcV.keep {W W' : World} {zv lv : Value} {Z : List (Zo)} {L : List (List UInt8 × List UInt8)} (h : SrcV W zv lv Z L) (hB : Below W.heap.size W W') : SrcV W' zv lv Z L := ⟨h.zo.keep hB, h.lk.keep hB, h.zn, h.ln⟩
end Go.Proofs.YtnffecoohkanhaaDoor.Px
namespace Go.Proofs.YtnffecoohkanhaaDoor.Px
open Go.RowKit
open Go.Maps (Keyed)

/-- a map from names to the first index of each -/
def MapOf (N : List (List UInt8)) (m : Nat) (X : World) : Prop := ∃ n D, n ≤ N.length ∧ X.ownsMap Tryd.prog 9 (plainElem Tryd.prog 3) m n D ∧ FnOf D (firstG N)
theorem MapOf.keep {N : List (List UInt8)} {m : Nat} {X Y : World} (h : MapOf N m X) (hB : Below X.heap.size X Y) : MapOf N m Y := by
  obtain ⟨n, D, h1, h2, h3⟩ := h
  exact ⟨n, D, h1, h2.kept (grown_below hB) (by simp), h3⟩
theorem MapOf.lt {N : List (List UInt8)} {m : Nat} {X : World} (h : MapOf N m X) : m < X.heap.size := by
  obtain ⟨n, D, _, h2, _⟩ := h
  exact h2.lt
set_option maxHeartbeats 8000000 in
set_option maxRecDepth 100000 in
theorem zones_any (rv zv lv sv : Value) (Z : List (Zo)) (W : World) (h : ZoV W zv Z) (hf : ∀ x ∈ Z, x.1.length ≤ maxLen) (hmax : Z.length ≤ 1000000) :
    Calls Tryd.prog 47 #[.agg #[rv, zv, lv, sv]] W fun e w' => ∃ m, e = .returned (.map (some m)) ∧ MapOf (znames Z) m w' ∧ W.heap.size ≤ m ∧ Below W.heap.size W w' := by
  obtain ⟨a, c, rfl, hc1, hc2⟩ := h.slA
  have hall := fun h0 => h.allA h0
  obtain ⟨n, hn⟩ : ∃ n, Z.length = n := ⟨_, rfl⟩
  rw [hn] at hall hmax hc1 ⊢
  unfold maxLen at hc2
  have HA := Lib.hid hall
  have HN := Lib.hid hn
  have HF := Lib.hid hf
  have K0 := Lib.hid (((Km.of (Kp.start W)).allocAt W.heap.size rfl (.cells #[rv, .slice a n c, lv, sv] 27)).made 9 3)
  rw [World.size_alloc] at K0
  have KB := Lib.hid ((Km.of (Kp.start W)).allocAt W.heap.size rfl (.cells #[rv, .slice a n c, lv, sv] 27))
  have b1 : (W.alloc (.cells #[rv, .slice a n c, lv, sv] 27)).cell? ⟨W.heap.size, 1, none⟩ = some (.slice a n c) := cells_at (KB.out.kp.at 0 rfl) 1
  have b2 : ((W.alloc (.cells #[rv, .slice a n c, lv, sv] 27)).alloc (.map #[] 0)).cell? ⟨W.heap.size, 1, none⟩ = some (.slice a n c) := cells_at (K0.out.kp.at 0 rfl) 1
  have T0 := Lib.hid (show ∃ nm D, nm ≤ 0 ∧ Km [(W.heap.size, .cells #[rv, .slice a n c, lv, sv] 27 (0, 0))] [] [⟨W.heap.size + 1, 9, 3, nm, D⟩] W _ ∧ FnOf D (firstG (znames (Z.take 0))) from ⟨0, _, Nat.le_refl _, K0.out, FnOf.empty⟩)
  have hmm := fun (n : Int) (w : World) => run_makeMap_hint (P := Tryd.prog) Tryd.underlying98 n w
  clear h hall hn hf K0 KB
  go_enter Tryd.func47, Tryd.ntmps47
  go_wp2_with fail
  clear hmm b1 b2
  go_loopw [4, 5, 6, 7, 15] (fun _ _ _ _ i15 wr => ∃ i : Nat, i ≤ n ∧ i15 = .int .i64 (i : Int) ∧ ∃ nm D, nm ≤ i ∧ Km [(W.heap.size, .cells #[rv, .slice a n c, lv, sv] 27 (0, 0))] [] [⟨W.heap.size + 1, 9, 3, nm, D⟩] W wr ∧ FnOf D (firstG (znames (Z.take i)))) (fun _ _ _ _ i15 _ => n - (intOf i15).toNat)
  case atStart => exact ⟨0, by omega, rfl, T0.out⟩
  case round =>
    obtain ⟨i, hi', rfl, nm, D, hnm, hK, hD⟩ := hrel
    have HK := Lib.hid hK
    have HD := Lib.hid hD
    clear hK hD T0
    by_cases hlt : i < n
    · obtain ⟨b, o, c', e1, _, _, hb, hcell⟩ := HA.out (by omega)
      simp only [Value.slice.injEq] at e1
      obtain ⟨rfl, _, rfl⟩ := e1
      obtain ⟨x, hx⟩ : ∃ x, Z[i]? = some x := ⟨_, List.getElem?_eq_getElem (by rw [HN.out]; exact hlt)⟩
      obtain ⟨q0, q1⟩ := zo_at Z hx
      have k0 := (HK.out.below.cell (p := ⟨b, o + i * 2, none⟩) hb).trans (hcell _ _ q0)
      have k1 := (HK.out.below.cell (p := ⟨b, o + i * 2 + 1, none⟩) hb).trans (hcell _ _ q1)
      have hbw := Nat.lt_of_lt_of_le hb HK.out.below.size
      have htk : znames (Z.take (i + 1)) = znames (Z.take i) ++ [x.1] := by
        unfold znames
        rw [List.take_add_one, hx, List.map_append]
        rfl
      have hkey := Lib.hid (keyN_is (HF.out x (List.mem_of_getElem? hx)))
      have hln : (znames (Z.take i)).length = i := by
        unfold znames
        rw [List.length_map, List.length_take, HN.out]
        omega
      obtain ⟨N0, hN0⟩ : ∃ N, znames (Z.take i) = N := ⟨_, rfl⟩
      rw [hN0] at HD htk hln
      have HIn := Lib.hid (firstG_in N0 x.1)
      have HTk := Lib.hid htk
      have HLn := Lib.hid hln
      obtain ⟨x1, x2, x3, x4⟩ := x
      dsimp only at k0 k1 hkey HIn HTk
      have KA := Lib.hid (HK.out.allocAt wr.heap.size rfl (.cells #[.string (bs x1), .slice x2 x3 x4] 40))
      obtain ⟨m0, m1⟩ := row2 (KA.out.kp.at 0 rfl)
      obtain ⟨s1, hs1⟩ : ∃ s, bs x1 = s := ⟨_, rfl⟩
      rw [hs1] at k0 hkey KA m0
      clear hx hcell q0 q1 htk hln hs1 hN0
      by_cases hm : x1 ∈ N0
      · rw [if_pos hm] at HIn
        obtain ⟨p, hp⟩ : ∃ p, posA N0 x1 = p := ⟨_, rfl⟩
        rw [hp] at HIn
        have HS1 := Lib.hid (show (firstG N0 (keyN x1)).getD (.lit (.int .i64 0)) = .lit (.int .i64 (p : Int)) by rw [HIn.out]; rfl)
        have HS2 := Lib.hid (show (firstG N0 (keyN x1)).isSome = true by rw [HIn.out]; rfl)
        have HG := Lib.hid (firstG_old hm)
        clear hp hm
        go_wp2_with (first
          | (at_lookup; refine wpList_look_ok_int _ rfl _ _ 98 rfl 9 3 .i64 str_keyed Tryd.underlying98 Tryd.underlying3 (zero_int _) (W.heap.size + 1) nm D (firstG N0) HD.out rfl (KA.out.map _ (List.mem_cons_self ..)) _ (keyN x1) rfl hkey.out (p : Int) HS1.out true HS2.out ?_)
          | go_in)
        go_roundw
        case rel =>
          refine ⟨i + 1, by omega, by go_num, nm, D, by omega, KA.out.drop, ?_⟩
          rw [HTk.out, HG.out]
          exact HD.out
        case measure => simp [intOf]; omega
      · rw [if_neg hm] at HIn
        have HS1 := Lib.hid (show (firstG N0 (keyN x1)).getD (.lit (.int .i64 0)) = .lit (.int .i64 0) by rw [HIn.out]; rfl)
        have HS2 := Lib.hid (show (firstG N0 (keyN x1)).isSome = false by rw [HIn.out]; rfl)
        have HG := Lib.hid (firstG_new hm)
        have hwf : (Lit.int .i64 (i : Int)).wf = true := wf_64 (by omega)
        have hnml : nm < maxLen := by unfold maxLen; omega
        have hval := Lib.hid (plainElem_int (H := Unit) (P := Tryd.prog) (q := .i64) Tryd.underlying3 hwf)
        obtain ⟨u3, hu3, ou3, gu3⟩ := (KA.out.map _ (List.mem_cons_self ..)).update str_keyed Tryd.underlying98 hnml hkey.out hval.out
        dsimp only at hu3
        have KF := Lib.hid (KA.out.turn gu3 ou3)
        clear ou3 gu3 hm hwf
        go_wp2_with (first
          | (at_lookup; refine wpList_look_ok_int _ rfl _ _ 98 rfl 9 3 .i64 str_keyed Tryd.underlying98 Tryd.underlying3 (zero_int _) (W.heap.size + 1) nm D (firstG N0) HD.out rfl (KA.out.map _ (List.mem_cons_self ..)) _ (keyN x1) rfl hkey.out 0 HS1.out false HS2.out ?_)
          | go_in)
        go_roundw
        case rel =>
          refine ⟨i + 1, by omega, by go_num, nm + 1, _, by omega, KF.out.drop, ?_⟩
          rw [HTk.out, HG.out, HLn.out]
          exact HD.out.put (keyN_lit x1) _
        case measure => simp [intOf]; omega
    · obtain rfl : i = n := by omega
      have hLt : Z.take i = Z := List.take_of_length_le (by rw [HN.out]; exact Nat.le_refl _)
      have hd := HD.out
      rw [hLt] at hd
      have HD2 := Lib.hid hd
      have hnn : nm ≤ (znames Z).length := by unfold znames; rw [List.length_map, HN.out]; exact hnm
      have HNN := Lib.hid hnn
      clear hLt hd hnn
      go_wp2_with fail
      refine bodyPost_ret (v := .map (some (W.heap.size + 1))) (by simp [results, Tryd.results47, go_sem]) rfl ⟨_, rfl, ⟨nm, D, HNN.out, HK.out.map _ (List.mem_cons_self ..), HD2.out⟩, by omega, HK.out.below⟩
set_option maxHeartbeats 8000000 in
set_option maxRecDepth 100000 in
theorem targets_any (rv zv lv sv : Value) (L : List (List UInt8 × List UInt8)) (W : World) (h : LkV W lv L) (hf : ∀ x ∈ L, x.1.length ≤ maxLen) (hmax : L.length ≤ 1000000) :
    Calls Tryd.prog 48 #[.agg #[rv, zv, lv, sv]] W fun e w' => ∃ m, e = .returned (.map (some m)) ∧ MapOf (Lk.nm L) m w' ∧ W.heap.size ≤ m ∧ Below W.heap.size W w' := by
  obtain ⟨a, c, rfl, hc1, hc2⟩ := h.slA
  have hall := fun h0 => h.allA h0
  obtain ⟨n, hn⟩ : ∃ n, L.length = n := ⟨_, rfl⟩
  rw [hn] at hall hmax hc1 ⊢
  unfold maxLen at hc2
  have HA := Lib.hid hall
  have HN := Lib.hid hn
  have HF := Lib.hid hf
  have K0 := Lib.hid (((Km.of (Kp.start W)).allocAt W.heap.size rfl (.cells #[rv, zv, .slice a n c, sv] 27)).made 9 3)
  rw [World.size_alloc] at K0
  have KB := Lib.hid ((Km.of (Kp.start W)).allocAt W.heap.size rfl (.cells #[rv, zv, .slice a n c, sv] 27))
  have b1 : (W.alloc (.cells #[rv, zv, .slice a n c, sv] 27)).cell? ⟨W.heap.size, 2, none⟩ = some (.slice a n c) := cells_at (KB.out.kp.at 0 rfl) 2
  have b2 : ((W.alloc (.cells #[rv, zv, .slice a n c, sv] 27)).alloc (.map #[] 0)).cell? ⟨W.heap.size, 2, none⟩ = some (.slice a n c) := cells_at (K0.out.kp.at 0 rfl) 2
  have T0 := Lib.hid (show ∃ nm D, nm ≤ 0 ∧ Km [(W.heap.size, .cells #[rv, zv, .slice a n c, sv] 27 (0, 0))] [] [⟨W.heap.size + 1, 9, 3, nm, D⟩] W _ ∧ FnOf D (firstG (Lk.nm (L.take 0))) from ⟨0, _, Nat.le_refl _, K0.out, FnOf.empty⟩)
  have hmm := fun (n : Int) (w : World) => run_makeMap_hint (P := Tryd.prog) Tryd.underlying98 n w
  clear h hall hn hf K0 KB
  go_enter Tryd.func48, Tryd.ntmps48
  go_wp2_with fail
  clear hmm b1 b2
  go_loopw [4, 5, 6, 7, 15] (fun _ _ _ _ i15 wr => ∃ i : Nat, i ≤ n ∧ i15 = .int .i64 (i : Int) ∧ ∃ nm D, nm ≤ i ∧ Km [(W.heap.size, .cells #[rv, zv, .slice a n c, sv] 27 (0, 0))] [] [⟨W.heap.size + 1, 9, 3, nm, D⟩] W wr ∧ FnOf D (firstG (Lk.nm (L.take i)))) (fun _ _ _ _ i15 _ => n - (intOf i15).toNat)
  case atStart => exact ⟨0, by omega, rfl, T0.out⟩
  case round =>
    obtain ⟨i, hi', rfl, nm, D, hnm, hK, hD⟩ := hrel
    have HK := Lib.hid hK
    have HD := Lib.hid hD
    clear hK hD T0
    by_cases hlt : i < n
    · obtain ⟨b, o, c', e1, _, _, hb, hcell⟩ := HA.out (by omega)
      simp only [Value.slice.injEq] at e1
      obtain ⟨rfl, _, rfl⟩ := e1
      obtain ⟨x, hx⟩ : ∃ x, L[i]? = some x := ⟨_, List.getElem?_eq_getElem (by rw [HN.out]; exact hlt)⟩
      obtain ⟨q0, q1⟩ := lk_at L hx
      have k0 := (HK.out.below.cell (p := ⟨b, o + i * 2, none⟩) hb).trans (hcell _ _ q0)
      have k1 := (HK.out.below.cell (p := ⟨b, o + i * 2 + 1, none⟩) hb).trans (hcell _ _ q1)
      have hbw := Nat.lt_of_lt_of_le hb HK.out.below.size
      have htk : Lk.nm (L.take (i + 1)) = Lk.nm (L.take i) ++ [x.1] := by
        unfold Lk.nm
        rw [List.take_add_one, hx, List.map_append]
        rfl
      have hkey := Lib.hid (keyN_is (HF.out x (List.mem_of_getElem? hx)))
      have hln : (Lk.nm (L.take i)).length = i := by
        unfold Lk.nm
        rw [List.length_map, List.length_take, HN.out]
        omega
      obtain ⟨N0, hN0⟩ : ∃ N, Lk.nm (L.take i) = N := ⟨_, rfl⟩
      rw [hN0] at HD htk hln
      have HIn := Lib.hid (firstG_in N0 x.1)
      have HTk := Lib.hid htk
      have HLn := Lib.hid hln
      obtain ⟨x1, x2⟩ := x
      dsimp only at k0 k1 hkey HIn HTk
      have KA := Lib.hid (HK.out.allocAt wr.heap.size rfl (.cells #[.string (bs x2), .string (bs x1)] 43))
      obtain ⟨m0, m1⟩ := row2 (KA.out.kp.at 0 rfl)
      obtain ⟨s1, hs1⟩ : ∃ s, bs x1 = s := ⟨_, rfl⟩
      rw [hs1] at k1 hkey KA m1
      clear hx hcell q0 q1 htk hln hs1 hN0
      by_cases hm : x1 ∈ N0
      · rw [if_pos hm] at HIn
        obtain ⟨p, hp⟩ : ∃ p, posA N0 x1 = p := ⟨_, rfl⟩
        rw [hp] at HIn
        have HS1 := Lib.hid (show (firstG N0 (keyN x1)).getD (.lit (.int .i64 0)) = .lit (.int .i64 (p : Int)) by rw [HIn.out]; rfl)
        have HS2 := Lib.hid (show (firstG N0 (keyN x1)).isSome = true by rw [HIn.out]; rfl)
        have HG := Lib.hid (firstG_old hm)
        clear hp hm
        go_wp2_with (first
          | (at_lookup; refine wpList_look_ok_int _ rfl _ _ 98 rfl 9 3 .i64 str_keyed Tryd.underlying98 Tryd.underlying3 (zero_int _) (W.heap.size + 1) nm D (firstG N0) HD.out rfl (KA.out.map _ (List.mem_cons_self ..)) _ (keyN x1) rfl hkey.out (p : Int) HS1.out true HS2.out ?_)
          | go_in)
        go_roundw
        case rel =>
          refine ⟨i + 1, by omega, by go_num, nm, D, by omega, KA.out.drop, ?_⟩
          rw [HTk.out, HG.out]
          exact HD.out
        case measure => simp [intOf]; omega
      · rw [if_neg hm] at HIn
        have HS1 := Lib.hid (show (firstG N0 (keyN x1)).getD (.lit (.int .i64 0)) = .lit (.int .i64 0) by rw [HIn.out]; rfl)
        have HS2 := Lib.hid (show (firstG N0 (keyN x1)).isSome = false by rw [HIn.out]; rfl)
        have HG := Lib.hid (firstG_new hm)
        have hwf : (Lit.int .i64 (i : Int)).wf = true := wf_64 (by omega)
        have hnml : nm < maxLen := by unfold maxLen; omega
        have hval := Lib.hid (plainElem_int (H := Unit) (P := Tryd.prog) (q := .i64) Tryd.underlying3 hwf)
        obtain ⟨u3, hu3, ou3, gu3⟩ := (KA.out.map _ (List.mem_cons_self ..)).update str_keyed Tryd.underlying98 hnml hkey.out hval.out
        dsimp only at hu3
        have KF := Lib.hid (KA.out.turn gu3 ou3)
        clear ou3 gu3 hm hwf
        go_wp2_with (first
          | (at_lookup; refine wpList_look_ok_int _ rfl _ _ 98 rfl 9 3 .i64 str_keyed Tryd.underlying98 Tryd.underlying3 (zero_int _) (W.heap.size + 1) nm D (firstG N0) HD.out rfl (KA.out.map _ (List.mem_cons_self ..)) _ (keyN x1) rfl hkey.out 0 HS1.out false HS2.out ?_)
          | go_in)
        go_roundw
        case rel =>
          refine ⟨i + 1, by omega, by go_num, nm + 1, _, by omega, KF.out.drop, ?_⟩
          rw [HTk.out, HG.out, HLn.out]
          exact HD.out.put (keyN_lit x1) _
        case measure => simp [intOf]; omega
    · obtain rfl : i = n := by omega
      have hLt : L.take i = L := List.take_of_length_le (by rw [HN.out]; exact Nat.le_refl _)
      have hd := HD.out
      rw [hLt] at hd
      have HD2 := Lib.hid hd
      have hnn : nm ≤ (Lk.nm L).length := by unfold Lk.nm; rw [List.length_map, HN.out]; exact hnm
      have HNN := Lib.hid hnn
      clear hLt hd hnn
      go_wp2_with fail
      refine bodyPost_ret (v := .map (some (W.heap.size + 1))) (by simp [results, Tryd.results48, go_sem]) rfl ⟨_, rfl, ⟨nm, D, HNN.out, HK.out.map _ (List.mem_cons_self ..), HD2.out⟩, by omega, HK.out.below⟩
end Go.Proofs.YtnffecoohkanhaaDoor.Px
