/- Names, links and what they stand for (chapter 15), plain: the program's way and the document's are the same. No program in sight. -/
import Derived.Lib.Bytealg
namespace Go.Proofs.YtnffecoohkanhaaGreatDoor.Lk

abbrev B := List UInt8
/-- the names of links -/
def nm (L : List (B × B)) : List B := L.map Prod.fst
/-- the target of the first link with a name -/
def tgt (L : List (B × B)) (n : B) : B := (L.getD ((nm L).idxOf n) ([], [])).2
section
variable (Z : List B) (L : List (B × B))
/-- what a name stands for, as the document follows it -/
def findG : Nat → B → Nat × Int
  | 0, _ => (0, 11)
  | k + 1, n => if n ∈ Z then (Z.idxOf n, 0) else if n ∈ nm L then findG k (tgt L n) else (0, 9)
/-- .. as the program follows it: each link once -/
def followG : Nat → List B → B → Nat × Int
  | 0, _, _ => (0, 11)
  | k + 1, used, n => if n ∈ Z then (Z.idxOf n, 0) else if n ∈ nm L then (if n ∈ used then (0, 11) else followG k (n :: used) (tgt L n)) else (0, 9)
def findL (n : B) : Nat × Int := findG Z L (L.length + 1) n
theorem loop_closed {S : List B} (h : ∀ x ∈ S, x ∉ Z ∧ x ∈ nm L ∧ tgt L x ∈ S) : ∀ (k : Nat) (n : B), n ∈ S → findG Z L k n = (0, 11)
  | 0, _, _ => rfl
  | k + 1, n, hn => by
    obtain ⟨h1, h2, h3⟩ := h n hn
    unfold findG
    rw [if_neg h1, if_pos h2]
    exact loop_closed h k _ h3
theorem nodup_le {α : Type} [DecidableEq α] : ∀ (l m : List α), l.Nodup → (∀ x ∈ l, x ∈ m) → l.length ≤ m.length
  | [], m, _, _ => by simp
  | a :: r, m, h, hs => by
    obtain ⟨h1, h2⟩ := List.nodup_cons.1 h
    have ha := hs a (List.mem_cons_self ..)
    have ih := nodup_le r (m.erase a) h2 (fun x hx => by
      have hne : x ≠ a := fun e => h1 (e ▸ hx)
      exact (List.mem_erase_of_ne hne).2 (hs x (List.mem_cons_of_mem _ hx)))
    have hl := List.length_erase_of_mem ha
    have hp := List.length_pos_of_mem ha
    rw [List.length_cons]
    omega
theorem nm_len : (nm L).length = L.length := by unfold nm; rw [List.length_map]
/-- what has been passed on the way to a name -/
structure Trail (used : List B) (n : B) : Prop where
  nodup : used.Nodup
  way : ∀ x ∈ used, x ∉ Z ∧ x ∈ nm L ∧ (tgt L x = n ∨ tgt L x ∈ used)
theorem Trail.nil (n : B) : Trail Z L [] n := ⟨List.nodup_nil, fun x hx => by cases hx⟩
theorem Trail.next {used : List B} {n : B} (h : Trail Z L used n) (h1 : n ∉ Z) (h2 : n ∈ nm L) (h3 : n ∉ used) : Trail Z L (n :: used) (tgt L n) :=
  ⟨List.nodup_cons.2 ⟨h3, h.nodup⟩, fun x hx => by
    rcases List.mem_cons.1 hx with rfl | hx
    · exact ⟨h1, h2, .inl rfl⟩
    · obtain ⟨a, b, c⟩ := h.way x hx
      refine ⟨a, b, .inr ?_⟩
      rcases c with c | c
      · rw [c]; exact List.mem_cons_self ..
      · exact List.mem_cons_of_mem _ c⟩
theorem Trail.len {used : List B} {n : B} (h : Trail Z L used n) : used.length ≤ L.length := by
  have := nodup_le used (nm L) h.nodup (fun x hx => (h.way x hx).2.1)
  rwa [nm_len] at this
theorem Trail.loop {used : List B} {n : B} (h : Trail Z L used n) (hn : n ∈ used) (k : Nat) : findG Z L k n = (0, 11) :=
  loop_closed Z L (S := used) (fun x hx => by
    obtain ⟨a, b, c⟩ := h.way x hx
    refine ⟨a, b, ?_⟩
    rcases c with c | c
    · rw [c]; exact hn
    · exact c) k n hn
theorem follow_find : ∀ (k : Nat) (used : List B) (n : B), Trail Z L used n → followG Z L k used n = findG Z L k n
  | 0, _, _, _ => rfl
  | k + 1, used, n, h => by
    unfold followG findG
    by_cases h1 : n ∈ Z
    · rw [if_pos h1, if_pos h1]
    · rw [if_neg h1, if_neg h1]
      by_cases h2 : n ∈ nm L
      · rw [if_pos h2, if_pos h2]
        by_cases h3 : n ∈ used
        · rw [if_pos h3]
          have := h.loop Z L h3 (k + 1)
          unfold findG at this
          rw [if_neg h1, if_pos h2] at this
          exact this.symm
        · rw [if_neg h3]
          exact follow_find k _ _ (h.next Z L h1 h2 h3)
      · rw [if_neg h2, if_neg h2]
/-- the first index at which something is wrong -/
def scan (f : Nat → Int) (n : Nat) : Option Nat := (List.range n).find? (fun i => decide (f i ≠ 0))
theorem scan_none {f : Nat → Int} {n : Nat} (h : ∀ j, j < n → f j = 0) : scan f n = none := by
  unfold scan
  rw [List.find?_eq_none]
  intro x hx
  simpa using h x (List.mem_range.1 hx)
theorem scan_some {f : Nat → Int} {n i : Nat} (hi : i < n) (h0 : f i ≠ 0) (h : ∀ j, j < i → f j = 0) : scan f n = some i := by
  unfold scan
  rw [List.find?_range_eq_some]
  refine ⟨by simpa using h0, by simpa using hi, fun j hj => by simpa using h j hj⟩
variable (ok : B → Bool)
/-- the error of a zone with an index -/
def zoneE (i : Nat) : Int := if ok (Z.getD i []) = false then 9 else if Z.idxOf (Z.getD i []) ≠ i then 10 else 0
/-- the error of a link with an index -/
def linkE (i : Nat) : Int := if ok ((nm L).getD i []) = false then 9 else if (nm L).getD i [] ∈ Z ∨ (nm L).idxOf ((nm L).getD i []) ≠ i then 10
  else if (L.getD i ([], [])).2 ∉ Z ∧ (L.getD i ([], [])).2 ∉ nm L then 9 else 0
def loopE (i : Nat) : Int := if (findL Z L ((nm L).getD i [])).2 = 11 then 11 else 0
/-- the place of what is wrong, and the error -/
def checkL : (Int × Int) × Int :=
  match scan (zoneE Z ok) Z.length with
  | some i => ((2, (i : Int)), zoneE Z ok i)
  | none => match scan (linkE Z L ok) L.length with
    | some i => ((3, (i : Int)), linkE Z L ok i)
    | none => match scan (loopE Z L) L.length with
      | some i => ((3, (i : Int)), 11)
      | none => ((0, 0), 0)
theorem check_zone {i : Nat} (hi : i < Z.length) (h0 : zoneE Z ok i ≠ 0) (h : ∀ j, j < i → zoneE Z ok j = 0) : checkL Z L ok = ((2, (i : Int)), zoneE Z ok i) := by
  unfold checkL
  rw [scan_some hi h0 h]
theorem check_link (hz : ∀ j, j < Z.length → zoneE Z ok j = 0) {i : Nat} (hi : i < L.length) (h0 : linkE Z L ok i ≠ 0) (h : ∀ j, j < i → linkE Z L ok j = 0) : checkL Z L ok = ((3, (i : Int)), linkE Z L ok i) := by
  unfold checkL
  rw [scan_none hz, scan_some hi h0 h]
theorem check_loop (hz : ∀ j, j < Z.length → zoneE Z ok j = 0) (hl : ∀ j, j < L.length → linkE Z L ok j = 0) {i : Nat} (hi : i < L.length) (h0 : (findL Z L ((nm L).getD i [])).2 = 11) (h : ∀ j, j < i → (findL Z L ((nm L).getD j [])).2 ≠ 11) : checkL Z L ok = ((3, (i : Int)), 11) := by
  unfold checkL
  rw [scan_none hz, scan_none hl, scan_some hi (by unfold loopE; rw [if_pos h0]; decide) (fun j hj => by unfold loopE; rw [if_neg (h j hj)])]
theorem check_fine (hz : ∀ j, j < Z.length → zoneE Z ok j = 0) (hl : ∀ j, j < L.length → linkE Z L ok j = 0) (h : ∀ j, j < L.length → (findL Z L ((nm L).getD j [])).2 ≠ 11) : checkL Z L ok = ((0, 0), 0) := by
  unfold checkL
  rw [scan_none hz, scan_none hl, scan_none (fun j hj => by unfold loopE; rw [if_neg (h j hj)])]
end
/-- the least names, each once, that some names have: what a growing list of them is -/
structure Least (all out : List B) : Prop where
  incr : out.Pairwise (fun a b => a < b)
  sub : ∀ x ∈ out, x ∈ all
  rest : ∀ x ∈ all, x ∉ out → ∀ y ∈ out, y < x
/-- two lists that increase and have the same elements are one -/
theorem incr_unique : ∀ {a b : List B}, a.Pairwise (fun x y => x < y) → b.Pairwise (fun x y => x < y) → (∀ x, x ∈ a ↔ x ∈ b) → a = b
  | [], [], _, _, _ => rfl
  | [], y :: b, _, _, h => by have := (h y).2 (List.mem_cons_self ..); cases this
  | x :: a, [], _, _, h => by have := (h x).1 (List.mem_cons_self ..); cases this
  | x :: a, y :: b, ha, hb, h => by
    obtain ⟨ha1, ha2⟩ := List.pairwise_cons.1 ha
    obtain ⟨hb1, hb2⟩ := List.pairwise_cons.1 hb
    have irr : ∀ z : B, ¬ z < z := fun z => List.lt_irrefl z
    have e : x = y := by
      rcases List.mem_cons.1 ((h x).1 (List.mem_cons_self ..)) with e | hx
      · exact e
      · rcases List.mem_cons.1 ((h y).2 (List.mem_cons_self ..)) with e | hy
        · exact e.symm
        · exact absurd (List.lt_trans (hb1 x hx) (ha1 y hy)) (irr y)
    subst e
    have hab : ∀ z, z ∈ a ↔ z ∈ b := by
      intro z
      constructor
      · intro hz
        rcases List.mem_cons.1 ((h z).1 (List.mem_cons_of_mem _ hz)) with e | hz'
        · subst e; exact absurd (ha1 _ hz) (irr _)
        · exact hz'
      · intro hz
        rcases List.mem_cons.1 ((h z).2 (List.mem_cons_of_mem _ hz)) with e | hz'
        · subst e; exact absurd (hb1 _ hz) (irr _)
        · exact hz'
    rw [incr_unique ha2 hb2 hab]
theorem lt_of {a b : B} (h : a ≤ b) (hne : a ≠ b) : a < b := by
  rcases Decidable.em (a < b) with h1 | h1
  · exact h1
  · exact absurd (List.le_antisymm h (List.not_lt.1 h1)) hne
/-- names sorted, each once -/
theorem sorted_incr {ss : List B} (hn : ss.Nodup) : (ss.mergeSort (fun x y => decide (x ≤ y))).Pairwise (fun a b => a < b) := by
  have h1 : (ss.mergeSort (fun x y => decide (x ≤ y))).Pairwise (fun a b => decide (a ≤ b) = true) :=
    List.pairwise_mergeSort (le := fun (x y : B) => decide (x ≤ y)) (fun a b c h1 h2 => decide_eq_true (List.le_trans (of_decide_eq_true h1) (of_decide_eq_true h2))) (fun a b => by
      rcases List.le_total a b with h | h
      · rw [decide_eq_true h]; rfl
      · rw [decide_eq_true h, Bool.or_true]) ss
  have h2 : (ss.mergeSort (fun x y => decide (x ≤ y))).Nodup := (List.mergeSort_perm ss _).nodup_iff.2 hn
  exact h1.imp₂ (fun a b h h' => lt_of (of_decide_eq_true h) h') h2
def dd : List B → List B
  | [] => []
  | x :: r => if x ∈ r then dd r else x :: dd r
theorem dd_mem : ∀ (l : List B) (x : B), x ∈ dd l ↔ x ∈ l
  | [], x => Iff.rfl
  | y :: r, x => by
    unfold dd
    by_cases h : y ∈ r
    · rw [if_pos h, dd_mem r x, List.mem_cons]
      constructor
      · exact .inr
      · rintro (rfl | h2)
        · exact h
        · exact h2
    · rw [if_neg h, List.mem_cons, List.mem_cons, dd_mem r x]
theorem dd_nodup : ∀ l : List B, (dd l).Nodup
  | [] => List.nodup_nil
  | y :: r => by
    unfold dd
    by_cases h : y ∈ r
    · rw [if_pos h]; exact dd_nodup r
    · rw [if_neg h]
      exact List.nodup_cons.2 ⟨fun hm => h ((dd_mem r y).1 hm), dd_nodup r⟩
/-- all names, sorted -/
def namesL (Z : List B) (L : List (B × B)) : List B := (dd (Z ++ nm L)).mergeSort (fun x y => decide (x ≤ y))
theorem names_incr (Z : List B) (L : List (B × B)) : (namesL Z L).Pairwise (fun a b => a < b) := sorted_incr (dd_nodup _)
theorem names_mem (Z : List B) (L : List (B × B)) (x : B) : x ∈ namesL Z L ↔ x ∈ Z ∨ x ∈ nm L := by
  unfold namesL
  rw [(List.mergeSort_perm _ _).mem_iff, dd_mem, List.mem_append]
theorem names_of {Z : List B} {L : List (B × B)} {ss : List B} (hn : ss.Nodup) (hm : ∀ x, x ∈ ss ↔ x ∈ Z ∨ x ∈ nm L) : ss.mergeSort (fun x y => decide (x ≤ y)) = namesL Z L :=
  incr_unique (sorted_incr hn) (names_incr Z L) (fun x => by rw [(List.mergeSort_perm _ _).mem_iff, hm, names_mem])
theorem names_least {Z : List B} {L : List (B × B)} {out : List B} (h : Least (Z ++ nm L) out) (ha : ∀ x ∈ Z ++ nm L, x ∈ out) : out = namesL Z L :=
  incr_unique h.incr (names_incr Z L) (fun x => by
    rw [names_mem, ← List.mem_append]
    exact ⟨h.sub x, ha x⟩)
theorem Least.nil (all : List B) : Least all [] := ⟨List.Pairwise.nil, (fun _ h => by cases h), fun _ _ _ _ h => by cases h⟩
/-- the least name that is not there yet comes next -/
theorem Least.next {all out : List B} {x : B} (h : Least all out) (hx : x ∈ all) (hn : x ∉ out) (hl : ∀ y ∈ all, y ∉ out → x ≤ y) : Least all (out ++ [x]) := by
  refine ⟨List.pairwise_append.2 ⟨h.incr, List.pairwise_singleton _ _, fun a ha b hb => ?_⟩, fun y hy => ?_, fun y hy hny z hz => ?_⟩
  · rw [List.mem_singleton] at hb
    subst hb
    exact h.rest b hx hn a ha
  · rcases List.mem_append.1 hy with hy | hy
    · exact h.sub y hy
    · rw [List.mem_singleton] at hy
      exact hy ▸ hx
  · have hyo : y ∉ out := fun q => hny (List.mem_append_left _ q)
    have hyx : x ≠ y := fun e => hny (by subst e; simp)
    rcases List.mem_append.1 hz with hz | hz
    · exact h.rest y hy hyo z hz
    · rw [List.mem_singleton] at hz
      subst hz
      exact lt_of (hl y hy hyo) hyx
end Go.Proofs.YtnffecoohkanhaaGreatDoor.Lk
