/- Sources by numbers (chapter 15's drafts), plain: their names are right and different, their links end. No program in sight. What is wrong with a source by numbers of which one thing is spoilt, plain. -/
import Derived.Test.YtnffecoohkanhaaDoorM21
namespace Go.Proofs.YtnffecoohkanhaaDoor.Ld
open Lk

/-- the name of a zone, of a link, by its number -/
def zName (j : Nat) : List UInt8 := 90 :: 47 :: Lib.itoa (j : Int)
def lName (j : Nat) : List UInt8 := 76 :: Lib.itoa (j : Int)
def zN (n t : Nat) : List (List UInt8) := (List.range n).map fun i => zName ((i + t) % n)
/-- what the number of a link is -/
def bOf (To : List Nat) (i : Nat) : Nat := if To.length = 0 then 0 else To.getD (i % To.length) 0
def tOf (n b i : Nat) : List UInt8 := if n ≤ b % (n + i) then lName (b % (n + i) - n) else zName (b % n)
def lkN (n m : Nat) (To : List Nat) : List (List UInt8 × List UInt8) := (List.range m).map fun i => (lName i, tOf n (bOf To i) i)
def rot {α : Type} (k : Nat) (l : List α) : List α := l.drop k ++ l.take k
theorem zName_ok : ((List.range 6).all fun j => zoneOk (zName j)) = true := by kernel_rfl
theorem lName_ok : ((List.range 12).all fun j => zoneOk (lName j)) = true := by kernel_rfl
theorem zName_inj : ((List.range 6).all fun i => (List.range 6).all fun j => decide (zName i = zName j → i = j)) = true := by kernel_rfl
theorem lName_inj : ((List.range 12).all fun i => (List.range 12).all fun j => decide (lName i = lName j → i = j)) = true := by kernel_rfl
theorem z_ne_l (i j : Nat) : zName i ≠ lName j := by
  intro h
  have := congrArg (fun l : List UInt8 => l[0]?) h
  simp [zName, lName] at this
theorem zOk {j : Nat} (h : j < 6) : zoneOk (zName j) = true := List.all_eq_true.1 zName_ok j (List.mem_range.2 h)
theorem lOk {j : Nat} (h : j < 12) : zoneOk (lName j) = true := List.all_eq_true.1 lName_ok j (List.mem_range.2 h)
theorem zInj {i j : Nat} (hi : i < 6) (hj : j < 6) (h : zName i = zName j) : i = j := by
  have := List.all_eq_true.1 (List.all_eq_true.1 zName_inj i (List.mem_range.2 hi)) j (List.mem_range.2 hj)
  exact (of_decide_eq_true this) h
theorem lInj {i j : Nat} (hi : i < 12) (hj : j < 12) (h : lName i = lName j) : i = j := by
  have := List.all_eq_true.1 (List.all_eq_true.1 lName_inj i (List.mem_range.2 hi)) j (List.mem_range.2 hj)
  exact (of_decide_eq_true this) h
theorem rot_mem {α : Type} (k : Nat) (l : List α) (x : α) : x ∈ rot k l ↔ x ∈ l := by
  unfold rot
  rw [List.mem_append, or_comm, ← List.mem_append, List.take_append_drop]
theorem rot_perm {α : Type} (k : Nat) (l : List α) : (rot k l).Perm l := by
  unfold rot
  have h := List.perm_append_comm (l₁ := l.drop k) (l₂ := l.take k)
  rwa [List.take_append_drop] at h
theorem turn_onto {n t j : Nat} (h : j < n) : ∃ i, i < n ∧ (i + t) % n = j := by
  have hn : 0 < n := by omega
  have ht := Nat.mod_lt t hn
  refine ⟨(j + (n - t % n)) % n, Nat.mod_lt _ hn, ?_⟩
  rw [Nat.mod_add_mod, Nat.add_assoc]
  have e : n - t % n + t = n + n * (t / n) := by
    have := Nat.div_add_mod t n
    omega
  rw [e, show j + (n + n * (t / n)) = j + n * (1 + t / n) by rw [Nat.mul_add, Nat.mul_one], Nat.add_mul_mod_self_left, Nat.mod_eq_of_lt h]
theorem turn_inj {n t i j : Nat} (hi : i < n) (hj : j < n) (h : (i + t) % n = (j + t) % n) : i = j := by
  have hn : 0 < n := by omega
  have h1 : (i + t) % n = (i + t % n) % n := by rw [Nat.add_mod_mod]
  have h2 : (j + t) % n = (j + t % n) % n := by rw [Nat.add_mod_mod]
  have ht := Nat.mod_lt t hn
  rw [h1, h2] at h
  have e : ∀ x, x < n → (x + t % n) % n = if x + t % n < n then x + t % n else x + t % n - n := by
    intro x hx
    by_cases hxt : x + t % n < n
    · rw [if_pos hxt, Nat.mod_eq_of_lt hxt]
    · rw [if_neg hxt, Nat.mod_eq_sub_mod (by omega), Nat.mod_eq_of_lt (by omega)]
  rw [e i hi, e j hj] at h
  split at h <;> split at h <;> omega
theorem zN_mem {n t : Nat} {x : List UInt8} : x ∈ zN n t ↔ ∃ j, j < n ∧ x = zName j := by
  unfold zN
  rw [List.mem_map]
  constructor
  · rintro ⟨i, hi, rfl⟩
    exact ⟨_, Nat.mod_lt _ (by have := List.mem_range.1 hi; omega), rfl⟩
  · rintro ⟨j, hj, rfl⟩
    obtain ⟨i, hi, e⟩ := turn_onto (t := t) hj
    exact ⟨i, List.mem_range.2 hi, by rw [e]⟩
theorem zN_nodup {n t : Nat} (hn : n ≤ 6) : (zN n t).Nodup := by
  unfold zN
  refine List.pairwise_map.2 (List.nodup_range.imp_of_mem fun {i j} hi hj hne e => hne ?_)
  have h1 := List.mem_range.1 hi
  have h2 := List.mem_range.1 hj
  exact turn_inj h1 h2 (zInj (Nat.lt_of_lt_of_le (Nat.mod_lt _ (by omega)) hn) (Nat.lt_of_lt_of_le (Nat.mod_lt _ (by omega)) hn) e)
theorem lk_nm (n m : Nat) (To : List Nat) : nm (lkN n m To) = (List.range m).map lName := by
  unfold nm lkN
  rw [List.map_map]
  rfl
theorem lk_nodup {m : Nat} (hm : m ≤ 12) : ((List.range m).map lName).Nodup := by
  refine List.pairwise_map.2 (List.nodup_range.imp_of_mem fun {i j} hi hj hne e => hne ?_)
  have h1 := List.mem_range.1 hi
  have h2 := List.mem_range.1 hj
  exact lInj (by omega) (by omega) e
theorem fst_unique : ∀ {L : List (List UInt8 × List UInt8)} {a b c : List UInt8}, (nm L).Nodup → (a, b) ∈ L → (a, c) ∈ L → b = c
  | [], _, _, _, _, h, _ => by cases h
  | (x, y) :: r, a, b, c, hn, hb, hc => by
    have hn' : x ∉ nm r ∧ (nm r).Nodup := List.nodup_cons.1 hn
    rcases List.mem_cons.1 hb with hb | hb
    · rcases List.mem_cons.1 hc with hc | hc
      · rw [← hb] at hc
        exact (congrArg Prod.snd hc).symm
      · have e : a = x := congrArg Prod.fst hb
        exact absurd (List.mem_map.2 ⟨(a, c), hc, e⟩) hn'.1
    · rcases List.mem_cons.1 hc with hc | hc
      · have e : a = x := congrArg Prod.fst hc
        exact absurd (List.mem_map.2 ⟨(a, b), hb, e⟩) hn'.1
      · exact fst_unique hn'.2 hb hc
theorem tgt_of {L : List (List UInt8 × List UInt8)} {a b : List UInt8} (hn : (nm L).Nodup) (h : (a, b) ∈ L) : tgt L a = b := by
  obtain ⟨i, t, _, _, hl, ht⟩ := Px.tgt_at (List.mem_map.2 ⟨(a, b), h, rfl⟩)
  rw [ht]
  exact fst_unique hn (List.mem_of_getElem? hl) h
theorem nm_rot (k : Nat) (L : List (List UInt8 × List UInt8)) : nm (rot k L) = rot k (nm L) := by
  unfold nm rot
  rw [List.map_append, List.map_drop, List.map_take]
section
variable {n m t k : Nat} {To : List Nat}
theorem made_nodup (hm : m ≤ 12) : (nm (rot k (lkN n m To))).Nodup := by
  rw [nm_rot, lk_nm]
  exact (rot_perm _ _).nodup_iff.2 (lk_nodup hm)
theorem made_nm {x : List UInt8} : x ∈ nm (rot k (lkN n m To)) ↔ ∃ i, i < m ∧ x = lName i := by
  rw [nm_rot, lk_nm, rot_mem, List.mem_map]
  constructor
  · rintro ⟨i, hi, rfl⟩; exact ⟨i, List.mem_range.1 hi, rfl⟩
  · rintro ⟨i, hi, rfl⟩; exact ⟨i, List.mem_range.2 hi, rfl⟩
theorem made_tgt (hm : m ≤ 12) {i : Nat} (hi : i < m) : tgt (rot k (lkN n m To)) (lName i) = tOf n (bOf To i) i :=
  tgt_of (made_nodup hm) ((rot_mem _ _ _).2 (List.mem_map.2 ⟨i, List.mem_range.2 hi, rfl⟩))
theorem l_not_z {i : Nat} : lName i ∉ zN n t := fun h => by
  obtain ⟨j, _, e⟩ := zN_mem.1 h
  exact z_ne_l j i e.symm
/-- each link ends at a zone -/
theorem made_ends (hn : 0 < n) (hm : m ≤ 12) : ∀ (i f : Nat), i < m → i + 2 ≤ f → ∃ j, j < n ∧ findG (zN n t) (rot k (lkN n m To)) f (lName i) = ((zN n t).idxOf (zName j), 0) := by
  intro i
  induction i using Nat.strongRecOn with
  | _ i ih =>
    intro f hi hf
    obtain ⟨g, rfl⟩ : ∃ g, f = g + 1 := ⟨f - 1, by omega⟩
    unfold findG
    rw [if_neg l_not_z, if_pos (made_nm.2 ⟨i, hi, rfl⟩), made_tgt hm hi]
    unfold tOf
    by_cases hb : n ≤ bOf To i % (n + i)
    · rw [if_pos hb]
      have hlt := Nat.mod_lt (bOf To i) (show n + i > 0 by omega)
      exact ih _ (by omega) g (by omega) (by omega)
    · rw [if_neg hb]
      obtain ⟨g', rfl⟩ : ∃ g', g = g' + 1 := ⟨g - 1, by omega⟩
      refine ⟨bOf To i % n, Nat.mod_lt _ hn, ?_⟩
      unfold findG
      rw [if_pos (zN_mem.2 ⟨_, Nat.mod_lt _ hn, rfl⟩)]
theorem idx_nodup {l : List (List UInt8)} (h : l.Nodup) {i : Nat} {x : List UInt8} (hx : l[i]? = some x) : l.idxOf x = i := by
  obtain ⟨hi, e⟩ := List.getElem?_eq_some_iff.1 hx
  subst e
  exact h.idxOf_getElem i hi
theorem made_len : (rot k (lkN n m To)).length = m := by
  rw [(rot_perm _ _).length_eq]
  unfold lkN
  rw [List.length_map, List.length_range]
theorem zN_len : (zN n t).length = n := by unfold zN; rw [List.length_map, List.length_range]
theorem getD_at {l : List (List UInt8)} {j : Nat} (h : j < l.length) : l[j]? = some (l.getD j []) := by
  rw [List.getD, List.getElem?_eq_getElem h]
  rfl
/-- nothing is wrong with a source by numbers -/
theorem made_fine (hn : 0 < n) (hn6 : n ≤ 6) (hm : m ≤ 12) : checkL (zN n t) (rot k (lkN n m To)) zoneOk = ((0, 0), 0) := by
  refine check_fine _ _ _ (fun j hj => ?_) (fun j hj => ?_) (fun j hj => ?_)
  · have hx := getD_at hj
    obtain ⟨i, hi, e⟩ := zN_mem.1 (List.mem_of_getElem? hx)
    unfold zoneE
    rw [idx_nodup (zN_nodup hn6) hx, e, zOk (by omega), if_neg (by decide), if_neg (fun q => q rfl)]
  · have hj2 : j < (nm (rot k (lkN n m To))).length := by rw [nm_len]; exact hj
    have hx := getD_at hj2
    obtain ⟨i, hi, e⟩ := made_nm.1 (List.mem_of_getElem? hx)
    have hp : (rot k (lkN n m To))[j]? = some ((rot k (lkN n m To)).getD j ([], [])) := by
      rw [List.getD, List.getElem?_eq_getElem hj]
      rfl
    have hmem := (rot_mem _ _ _).1 (List.mem_of_getElem? hp)
    obtain ⟨i2, hi2, e2⟩ := List.mem_map.1 hmem
    have hi2 := List.mem_range.1 hi2
    unfold linkE
    rw [idx_nodup (made_nodup hm) hx, e, lOk (by omega), if_neg (by decide), if_neg (by rintro (q | q); exact l_not_z q; exact q rfl), if_neg]
    rintro ⟨h1, h2⟩
    rw [← e2] at h1 h2
    dsimp only at h1 h2
    unfold tOf at h1 h2
    by_cases hb : n ≤ bOf To i2 % (n + i2)
    · rw [if_pos hb] at h2
      have hlt := Nat.mod_lt (bOf To i2) (show n + i2 > 0 by omega)
      exact h2 (made_nm.2 ⟨_, by omega, rfl⟩)
    · rw [if_neg hb] at h1
      exact h1 (zN_mem.2 ⟨_, Nat.mod_lt _ hn, rfl⟩)
  · have hj2 : j < (nm (rot k (lkN n m To))).length := by rw [nm_len]; exact hj
    have hx := getD_at hj2
    obtain ⟨i, hi, e⟩ := made_nm.1 (List.mem_of_getElem? hx)
    unfold findL
    rw [e, made_len]
    obtain ⟨j', _, h⟩ := made_ends (t := t) (k := k) (To := To) hn hm i (m + 1) hi (by omega)
    rw [h]
    exact fun q => absurd q (by decide : ¬ (0 : Int) = 11)
end
end Go.Proofs.YtnffecoohkanhaaDoor.Ld
namespace Go.Proofs.YtnffecoohkanhaaDoor.Ld
open Lk

theorem idx_iff {l : List (List UInt8)} {j : Nat} {x : List UInt8} (hx : l[j]? = some x) (h : ∀ a, a < j → l[a]? ≠ some x) : l.idxOf x = j := by
  have hm : x ∈ l := List.mem_of_getElem? hx
  have hi := List.idxOf_lt_length_of_mem hm
  have hg : l[l.idxOf x]? = some x := by rw [List.getElem?_eq_getElem hi]; exact congrArg some (List.getElem_idxOf hi)
  have hj : j < l.length := (List.getElem?_eq_some_iff.1 hx).1
  rcases Nat.lt_trichotomy (l.idxOf x) j with h1 | h1 | h1
  · exact absurd hg (h _ h1)
  · exact h1
  · have := List.not_of_lt_findIdx (p := fun y => y == x) (xs := l) h1
    obtain ⟨_, e⟩ := List.getElem?_eq_some_iff.1 hx
    simp [e] at this
theorem idx_less {l : List (List UInt8)} {j : Nat} {x : List UInt8} (h : l.idxOf x = j) : ∀ a, a < j → l[a]? ≠ some x := by
  intro a ha e
  obtain ⟨hal, e2⟩ := List.getElem?_eq_some_iff.1 e
  have := List.not_of_lt_findIdx (p := fun y => y == x) (xs := l) (i := a) (by show a < l.idxOf x; omega)
  simp [e2] at this
/-- the same names up to a place: the same index -/
theorem idx_same {l m : List (List UInt8)} {j : Nat} (hj : j < l.length) (h : ∀ a, a ≤ j → m[a]? = l[a]?) (hi : l.idxOf (l.getD j []) = j) : m.getD j [] = l.getD j [] ∧ m.idxOf (l.getD j []) = j := by
  have e : l[j]? = some (l.getD j []) := getD_at hj
  refine ⟨?_, idx_iff ((h j (Nat.le_refl j)).trans e) (fun a ha => ?_)⟩
  · rw [List.getD, h j (Nat.le_refl j), e]
    rfl
  · rw [h a (by omega)]
    exact idx_less hi a ha
theorem zoneE_fine {Z : List (List UInt8)} {ok : List UInt8 → Bool} {j : Nat} : zoneE Z ok j = 0 ↔ ok (Z.getD j []) = true ∧ Z.idxOf (Z.getD j []) = j := by
  unfold zoneE
  constructor
  · intro h
    split at h
    · cases h
    · split at h
      · cases h
      · next h1 h2 => exact ⟨by simpa using h1, by simpa using h2⟩
  · rintro ⟨h1, h2⟩
    rw [if_neg (by rw [h1]; decide), if_neg (fun q => q h2)]
theorem zoneE_same {Z Z' : List (List UInt8)} {ok : List UInt8 → Bool} {j : Nat} (hj : j < Z.length) (h : ∀ a, a ≤ j → Z'[a]? = Z[a]?) (h0 : zoneE Z ok j = 0) : zoneE Z' ok j = 0 := by
  obtain ⟨h1, h2⟩ := zoneE_fine.1 h0
  obtain ⟨e1, e2⟩ := idx_same hj h h2
  exact zoneE_fine.2 (by rw [e1]; exact ⟨h1, e2⟩)
theorem linkE_fine {Z : List (List UInt8)} {L : List (List UInt8 × List UInt8)} {ok : List UInt8 → Bool} {j : Nat} : linkE Z L ok j = 0 ↔ ok ((nm L).getD j []) = true ∧ (nm L).getD j [] ∉ Z ∧ (nm L).idxOf ((nm L).getD j []) = j ∧ ((L.getD j ([], [])).2 ∈ Z ∨ (L.getD j ([], [])).2 ∈ nm L) := by
  unfold linkE
  constructor
  · intro h
    split at h
    · cases h
    · split at h
      · cases h
      · next h1 h2 =>
        split at h
        · cases h
        · next h3 =>
          refine ⟨by simpa using h1, fun q => h2 (.inl q), Classical.byContradiction fun q => h2 (.inr q), Classical.byContradiction fun q => h3 ⟨fun a => q (.inl a), fun a => q (.inr a)⟩⟩
  · rintro ⟨h1, h2, h3, h4⟩
    rw [if_neg (by rw [h1]; decide), if_neg (by rintro (q | q); exact h2 q; exact q h3), if_neg (by rintro ⟨q1, q2⟩; rcases h4 with h4 | h4; exact q1 h4; exact q2 h4)]
theorem linkE_same {Z : List (List UInt8)} {L L' : List (List UInt8 × List UInt8)} {ok : List UInt8 → Bool} {j : Nat} (hj : j < L.length) (h : ∀ a, a ≤ j → L'[a]?.map Prod.fst = L[a]?.map Prod.fst) (ht : L'[j]? = L[j]?) (hs : ∀ x, x ∈ nm L → x ∈ nm L') (h0 : linkE Z L ok j = 0) : linkE Z L' ok j = 0 := by
  obtain ⟨h1, h2, h3, h4⟩ := linkE_fine.1 h0
  have hj2 : j < (nm L).length := by rw [nm_len]; exact hj
  obtain ⟨e1, e2⟩ := idx_same (l := nm L) (m := nm L') hj2 (fun a ha => by unfold nm; rw [List.getElem?_map, List.getElem?_map]; exact h a ha) h3
  have e3 : L'.getD j ([], []) = L.getD j ([], []) := by rw [List.getD, List.getD, ht]
  refine linkE_fine.2 ?_
  rw [e1, e3]
  exact ⟨h1, h2, e2, h4.imp id (hs _)⟩
section
variable {n m t k : Nat} {To : List Nat}
theorem made_zoneE (hn6 : n ≤ 6) {j : Nat} (hj : j < n) : zoneE (zN n t) zoneOk j = 0 := by
  have hx := getD_at (l := zN n t) (j := j) (by rw [zN_len]; exact hj)
  obtain ⟨i, hi, e⟩ := zN_mem.1 (List.mem_of_getElem? hx)
  exact zoneE_fine.2 ⟨by rw [e]; exact zOk (by omega), idx_nodup (zN_nodup hn6) hx⟩
theorem made_linkE (hn : 0 < n) (hm : m ≤ 12) {j : Nat} (hj : j < m) : linkE (zN n t) (rot k (lkN n m To)) zoneOk j = 0 := by
  have hj1 : j < (rot k (lkN n m To)).length := by rw [made_len]; exact hj
  have hj2 : j < (nm (rot k (lkN n m To))).length := by rw [nm_len]; exact hj1
  have hx := getD_at hj2
  obtain ⟨i, hi, e⟩ := made_nm.1 (List.mem_of_getElem? hx)
  have hp : (rot k (lkN n m To))[j]? = some ((rot k (lkN n m To)).getD j ([], [])) := by
    rw [List.getD, List.getElem?_eq_getElem hj1]
    rfl
  have hmem := (rot_mem _ _ _).1 (List.mem_of_getElem? hp)
  obtain ⟨i2, hi2, e2⟩ := List.mem_map.1 hmem
  have hi2 := List.mem_range.1 hi2
  refine linkE_fine.2 ⟨by rw [e]; exact lOk (by omega), by rw [e]; exact l_not_z, idx_nodup (made_nodup hm) hx, ?_⟩
  rw [← e2]
  dsimp only
  unfold tOf
  by_cases hb : n ≤ bOf To i2 % (n + i2)
  · rw [if_pos hb]
    have hlt := Nat.mod_lt (bOf To i2) (show n + i2 > 0 by omega)
    exact .inr (made_nm.2 ⟨_, by omega, rfl⟩)
  · rw [if_neg hb]
    exact .inl (zN_mem.2 ⟨_, Nat.mod_lt _ hn, rfl⟩)
/-- a zone whose name is none -/
theorem bad_zone (hn6 : n ≤ 6) {i : Nat} (hi : i < n) {bad : List UInt8} (hb : zoneOk bad = false) (L : List (List UInt8 × List UInt8)) : checkL ((zN n t).set i bad) L zoneOk = ((2, (i : Int)), 9) := by
  have hl : i < (zN n t).length := by rw [zN_len]; exact hi
  have e : zoneE ((zN n t).set i bad) zoneOk i = 9 := by
    unfold zoneE
    rw [List.getD, List.getElem?_set_self hl, Option.getD_some, if_pos hb]
  rw [check_zone _ _ _ (by rw [List.length_set]; exact hl) (by rw [e]; decide) (fun j hj => zoneE_same (Z := zN n t) (by omega) (fun a ha => List.getElem?_set_ne (by omega)) (made_zoneE hn6 (by omega))), e]
/-- a zone that is there twice -/
theorem twice_zone (hn6 : n ≤ 6) {i : Nat} (hi : i < n) (L : List (List UInt8 × List UInt8)) : checkL (zN n t ++ [(zN n t).getD i []]) L zoneOk = ((2, (n : Int)), 10) := by
  have hl : i < (zN n t).length := by rw [zN_len]; exact hi
  have hx := getD_at hl
  obtain ⟨i', hi', e'⟩ := zN_mem.1 (List.mem_of_getElem? hx)
  have hn : (zN n t).length = n := zN_len
  have hsame : ∀ a, a < n → (zN n t ++ [(zN n t).getD i []])[a]? = (zN n t)[a]? := fun a ha => List.getElem?_append_left (by omega)
  have hlast : (zN n t ++ [(zN n t).getD i []]).getD n [] = (zN n t).getD i [] := by
    rw [List.getD, List.getElem?_append_right (by omega), hn, Nat.sub_self]
    rfl
  have e : zoneE (zN n t ++ [(zN n t).getD i []]) zoneOk n = 10 := by
    unfold zoneE
    rw [hlast, e', zOk (by omega), if_neg (by decide), if_pos]
    rw [← e', idx_iff ((hsame i hi).trans hx) (fun a ha => by rw [hsame a (by omega)]; exact idx_less (zoneE_fine.1 (made_zoneE hn6 hi)).2 a ha)]
    omega
  rw [check_zone _ _ _ (by rw [List.length_append, hn]; show n < n + 1; omega) (by rw [e]; decide) (fun j hj => zoneE_same (Z := zN n t) (by omega) (fun a ha => hsame a (by omega)) (made_zoneE hn6 hj)), e]
theorem snoc_at {L : List (List UInt8 × List UInt8)} {p : List UInt8 × List UInt8} {a : Nat} (h : a < L.length) : (L ++ [p])[a]? = L[a]? := List.getElem?_append_left h
/-- a link more, of which the name is none, or there already -/
theorem link_more (hn : 0 < n) (hn6 : n ≤ 6) (hm : m ≤ 12) (p : List UInt8 × List UInt8) {c : Int} (hc : c ≠ 0) (h : zoneOk p.1 = false ∧ c = 9 ∨ zoneOk p.1 = true ∧ (p.1 ∈ zN n t ∨ p.1 ∈ nm (rot k (lkN n m To))) ∧ c = 10) :
    checkL (zN n t) (rot k (lkN n m To) ++ [p]) zoneOk = ((3, (m : Int)), c) := by
  obtain ⟨L, hL⟩ : ∃ L, rot k (lkN n m To) = L := ⟨_, rfl⟩
  have hlen : L.length = m := by rw [← hL]; exact made_len
  have hnl : (nm L).length = m := by rw [nm_len]; exact hlen
  have hnm : nm (L ++ [p]) = nm L ++ [p.1] := by unfold nm; rw [List.map_append]; rfl
  have hat : (nm (L ++ [p])).getD m [] = p.1 := by
    rw [hnm, List.getD, List.getElem?_append_right (by omega), hnl, Nat.sub_self]
    rfl
  have e : linkE (zN n t) (L ++ [p]) zoneOk m = c := by
    unfold linkE
    rw [hat]
    rcases h with ⟨h1, h2⟩ | ⟨h1, h2, h3⟩
    · rw [if_pos h1, h2]
    · rw [h1, if_neg (by decide), if_pos, h3]
      refine h2.imp id fun hq => ?_
      rw [hL] at hq
      rw [hnm, List.idxOf_append, if_pos hq]
      have := List.idxOf_lt_length_of_mem hq
      omega
  rw [hL, check_link _ _ _ (fun j hj => made_zoneE hn6 (by rw [zN_len] at hj; exact hj)) (i := m) (by rw [List.length_append, hlen]; show m < m + 1; omega) (by rw [e]; exact hc) (fun j hj => ?_), e]
  have h0 : linkE (zN n t) L zoneOk j = 0 := by rw [← hL]; exact made_linkE hn hm hj
  exact linkE_same (by omega) (fun a ha => by rw [snoc_at (by omega)]) (snoc_at (by omega)) (fun x hx => by rw [hnm]; exact List.mem_append_left _ hx) h0
theorem l99 : [76, 57, 57] = lName 99 := by kernel_rfl
theorem l99_not : ((List.range 12).all fun i => decide (lName i ≠ [76, 57, 57])) = true := by kernel_rfl
theorem l99_nm (hm : m ≤ 12) : [76, 57, 57] ∉ nm (rot k (lkN n m To)) := by
  intro h
  obtain ⟨i, hi, e⟩ := made_nm.1 h
  have := List.all_eq_true.1 l99_not i (List.mem_range.2 (by omega))
  exact of_decide_eq_true this e.symm
theorem l99_z : [76, 57, 57] ∉ zN n t := by rw [l99]; exact l_not_z
/-- a link whose target is not known -/
theorem far_link (hn : 0 < n) (hn6 : n ≤ 6) (hm : m ≤ 12) {i : Nat} (hi : i < m) {L : List (List UInt8 × List UInt8)} (hL : rot k (lkN n m To) = L) :
    checkL (zN n t) (L.set i ((L.getD i ([], [])).1, [76, 57, 57])) zoneOk = ((3, (i : Int)), 9) ∧ findL (zN n t) (L.set i ((L.getD i ([], [])).1, [76, 57, 57])) (L.getD i ([], [])).1 = (0, 9) := by
  have hlen : L.length = m := by rw [← hL]; exact made_len
  have hil : i < L.length := by omega
  have hg : L[i]? = some (L.getD i ([], [])) := by rw [List.getD, List.getElem?_eq_getElem hil]; rfl
  obtain ⟨q, hq⟩ : ∃ q, L.getD i ([], []) = q := ⟨_, rfl⟩
  rw [hq] at hg ⊢
  obtain ⟨L', hL'⟩ : ∃ X, L.set i (q.1, [76, 57, 57]) = X := ⟨_, rfl⟩
  have hself : L'[i]? = some (q.1, [76, 57, 57]) := by rw [← hL', List.getElem?_set_self hil]
  have hother : ∀ a : Nat, a ≠ i → L'[a]? = L[a]? := fun a ha => by rw [← hL', List.getElem?_set_ne (fun e => ha e.symm)]
  have hnames : ∀ a : Nat, L'[a]?.map Prod.fst = L[a]?.map Prod.fst := by
    intro a
    by_cases h : a = i
    · subst h; rw [hself, hg]; rfl
    · rw [hother a h]
  have hnm : nm L' = nm L := by
    apply List.ext_getElem?
    intro a
    unfold nm
    rw [List.getElem?_map, List.getElem?_map]
    exact hnames a
  have hnd : (nm L).Nodup := by rw [← hL]; exact made_nodup hm
  have hqm : q.1 ∈ nm L := List.mem_map.2 ⟨q, List.mem_of_getElem? hg, rfl⟩
  have hqz : q.1 ∉ zN n t := by
    rw [← hL] at hqm
    obtain ⟨a, _, e⟩ := made_nm.1 hqm
    rw [e]
    exact l_not_z
  have h99 : [76, 57, 57] ∉ nm L' := by rw [hnm, ← hL]; exact l99_nm hm
  rw [hL']
  refine ⟨?_, ?_⟩
  · have h0 : linkE (zN n t) L zoneOk i = 0 := by rw [← hL]; exact made_linkE hn hm hi
    obtain ⟨h1, h2, h3, _⟩ := linkE_fine.1 h0
    have e : linkE (zN n t) L' zoneOk i = 9 := by
      unfold linkE
      rw [hnm, h1, if_neg (by decide), if_neg (by rintro (z | z); exact h2 z; exact z h3), List.getD, hself, if_pos]
      exact ⟨l99_z, by rw [← hnm]; exact h99⟩
    rw [check_link _ _ _ (fun j hj => made_zoneE hn6 (by rw [zN_len] at hj; exact hj)) (i := i) (by rw [← hL', List.length_set]; exact hil) (by rw [e]; decide) (fun j hj => ?_), e]
    have h0 : linkE (zN n t) L zoneOk j = 0 := by rw [← hL]; exact made_linkE hn hm (by omega)
    exact linkE_same (by omega) (fun a _ => hnames a) (hother j (by omega)) (fun x hx => by rw [hnm]; exact hx) h0
  · have ht : tgt L' q.1 = [76, 57, 57] := tgt_of (by rw [hnm]; exact hnd) (List.mem_of_getElem? hself)
    unfold findL
    obtain ⟨f, hf⟩ : ∃ f, L'.length + 1 = f + 2 := ⟨m - 1, by rw [← hL', List.length_set]; omega⟩
    rw [hf]
    unfold findG
    rw [if_neg hqz, hnm, if_pos hqm, ht]
    unfold findG
    rw [if_neg l99_z, if_neg h99]
end
/-- the names that are none -/
def badL (j : Nat) : List UInt8 := ([[], [47], [65, 47], [46, 65], [45], [65, 32, 66]] : List (List UInt8)).getD j []
theorem badL_no : ((List.range 6).all fun j => !zoneOk (badL j)) = true := by kernel_rfl
theorem bad_no {j : Nat} (h : j < 6) : zoneOk (badL j) = false := by
  have := List.all_eq_true.1 badL_no j (List.mem_range.2 h)
  simpa using this
end Go.Proofs.YtnffecoohkanhaaDoor.Ld
