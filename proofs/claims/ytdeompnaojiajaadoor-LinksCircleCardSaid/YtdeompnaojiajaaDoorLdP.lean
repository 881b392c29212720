/- Sources by numbers (chapter 15's drafts), plain: their names are right and different, their links end. No program in sight. -/
import Derived.Test.YtdeompnaojiajaaDoorLnN
namespace Go.Proofs.YtdeompnaojiajaaDoor.Ld
open Lk

/-- the name of a zone, of a link, by its number -/
def zName (j : Nat) : List UInt8 := 90 :: 47 :: Lib.itoa (j : Int)
def lName (j : Nat) : List UInt8 := 76 :: Lib.itoa (j : Int)
def zN (n t : Nat) : List (List UInt8) := (List.range n).map fun i => zName ((i + t) % n)
/-- what the number of a link is -/
def bOf (To : List Nat) (i : Nat) : Nat := if To.length = 0 then 0 else To.getD (i % To.length) 0
def tOf (n b i : Nat) : List UInt8 := if n ≤ b % (n + i) then lName (b % (n + i) - n) else zName (b % n)
def lkN (n m : Nat) (To : List Nat) : List (List UInt8 × List UInt8) := (List.range m).map fun i => (lName i, tOf n (bOf To i) i)
def rot {α : Type} (k : Nat) (l : List α) : List α := l.drop k ++ l.take k
theorem zName_ok : ((List.range 6).all fun j => zoneOk (zName j)) = true := by kernel_rfl
theorem lName_ok : ((List.range 12).all fun j => zoneOk (lName j)) = true := by kernel_rfl
theorem zName_inj : ((List.range 6).all fun i => (List.range 6).all fun j => decide (zName i = zName j → i = j)) = true := by kernel_rfl
theorem lName_inj : ((List.range 12).all fun i => (List.range 12).all fun j => decide (lName i = lName j → i = j)) = true := by kernel_rfl
theorem z_ne_l (i j : Nat) : zName i ≠ lName j := by
  intro h
  have := congrArg (fun l : List UInt8 => l[0]?) h
  simp [zName, lName] at this
theorem zOk {j : Nat} (h : j < 6) : zoneOk (zName j) = true := List.all_eq_true.1 zName_ok j (List.mem_range.2 h)
theorem lOk {j : Nat} (h : j < 12) : zoneOk (lName j) = true := List.all_eq_true.1 lName_ok j (List.mem_range.2 h)
theorem zInj {i j : Nat} (hi : i < 6) (hj : j < 6) (h : zName i = zName j) : i = j := by
  have := List.all_eq_true.1 (List.all_eq_true.1 zName_inj i (List.mem_range.2 hi)) j (List.mem_range.2 hj)
  exact (of_decide_eq_true this) h
theorem lInj {i j : Nat} (hi : i < 12) (hj : j < 12) (h : lName i = lName j) : i = j := by
  have := List.all_eq_true.1 (List.all_eq_true.1 lName_inj i (List.mem_range.2 hi)) j (List.mem_range.2 hj)
  exact (of_decide_eq_true this) h
theorem rot_mem {α : Type} (k : Nat) (l : List α) (x : α) : x ∈ rot k l ↔ x ∈ l := by
  unfold rot
  rw [List.mem_append, or_comm, ← List.mem_append, List.take_append_drop]
theorem rot_perm {α : Type} (k : Nat) (l : List α) : (rot k l).Perm l := by
  unfold rot
  have h := List.perm_append_comm (l₁ := l.drop k) (l₂ := l.take k)
  rwa [List.take_append_drop] at h
theorem turn_onto {n t j : Nat} (h : j < n) : ∃ i, i < n ∧ (i + t) % n = j := by
  have hn : 0 < n := by omega
  have ht := Nat.mod_lt t hn
  refine ⟨(j + (n - t % n)) % n, Nat.mod_lt _ hn, ?_⟩
  rw [Nat.mod_add_mod, Nat.add_assoc]
  have e : n - t % n + t = n + n * (t / n) := by
    have := Nat.div_add_mod t n
    omega
  rw [e, show j + (n + n * (t / n)) = j + n * (1 + t / n) by rw [Nat.mul_add, Nat.mul_one], Nat.add_mul_mod_self_left, Nat.mod_eq_of_lt h]
theorem turn_inj {n t i j : Nat} (hi : i < n) (hj : j < n) (h : (i + t) % n = (j + t) % n) : i = j := by
  have hn : 0 < n := by omega
  have h1 : (i + t) % n = (i + t % n) % n := by rw [Nat.add_mod_mod]
  have h2 : (j + t) % n = (j + t % n) % n := by rw [Nat.add_mod_mod]
  have ht := Nat.mod_lt t hn
  rw [h1, h2] at h
  have e : ∀ x, x < n → (x + t % n) % n = if x + t % n < n then x + t % n else x + t % n - n := by
    intro x hx
    by_cases hxt : x + t % n < n
    · rw [if_pos hxt, Nat.mod_eq_of_lt hxt]
    · rw [if_neg hxt, Nat.mod_eq_sub_mod (by omega), Nat.mod_eq_of_lt (by omega)]
  rw [e i hi, e j hj] at h
  split at h <;> split at h <;> omega
theorem zN_mem {n t : Nat} {x : List UInt8} : x ∈ zN n t ↔ ∃ j, j < n ∧ x = zName j := by
  unfold zN
  rw [List.mem_map]
  constructor
  · rintro ⟨i, hi, rfl⟩
    exact ⟨_, Nat.mod_lt _ (by have := List.mem_range.1 hi; omega), rfl⟩
  · rintro ⟨j, hj, rfl⟩
    obtain ⟨i, hi, e⟩ := turn_onto (t := t) hj
    exact ⟨i, List.mem_range.2 hi, by rw [e]⟩
theorem zN_nodup {n t : Nat} (hn : n ≤ 6) : (zN n t).Nodup := by
  unfold zN
  refine List.pairwise_map.2 (List.nodup_range.imp_of_mem fun {i j} hi hj hne e => hne ?_)
  have h1 := List.mem_range.1 hi
  have h2 := List.mem_range.1 hj
  exact turn_inj h1 h2 (zInj (Nat.lt_of_lt_of_le (Nat.mod_lt _ (by omega)) hn) (Nat.lt_of_lt_of_le (Nat.mod_lt _ (by omega)) hn) e)
theorem lk_nm (n m : Nat) (To : List Nat) : nm (lkN n m To) = (List.range m).map lName := by
  unfold nm lkN
  rw [List.map_map]
  rfl
theorem lk_nodup {m : Nat} (hm : m ≤ 12) : ((List.range m).map lName).Nodup := by
  refine List.pairwise_map.2 (List.nodup_range.imp_of_mem fun {i j} hi hj hne e => hne ?_)
  have h1 := List.mem_range.1 hi
  have h2 := List.mem_range.1 hj
  exact lInj (by omega) (by omega) e
theorem fst_unique : ∀ {L : List (List UInt8 × List UInt8)} {a b c : List UInt8}, (nm L).Nodup → (a, b) ∈ L → (a, c) ∈ L → b = c
  | [], _, _, _, _, h, _ => by cases h
  | (x, y) :: r, a, b, c, hn, hb, hc => by
    have hn' : x ∉ nm r ∧ (nm r).Nodup := List.nodup_cons.1 hn
    rcases List.mem_cons.1 hb with hb | hb
    · rcases List.mem_cons.1 hc with hc | hc
      · rw [← hb] at hc
        exact (congrArg Prod.snd hc).symm
      · have e : a = x := congrArg Prod.fst hb
        exact absurd (List.mem_map.2 ⟨(a, c), hc, e⟩) hn'.1
    · rcases List.mem_cons.1 hc with hc | hc
      · have e : a = x := congrArg Prod.fst hc
        exact absurd (List.mem_map.2 ⟨(a, b), hb, e⟩) hn'.1
      · exact fst_unique hn'.2 hb hc
theorem tgt_of {L : List (List UInt8 × List UInt8)} {a b : List UInt8} (hn : (nm L).Nodup) (h : (a, b) ∈ L) : tgt L a = b := by
  obtain ⟨i, t, _, _, hl, ht⟩ := Px.tgt_at (List.mem_map.2 ⟨(a, b), h, rfl⟩)
  rw [ht]
  exact fst_unique hn (List.mem_of_getElem? hl) h
theorem nm_rot (k : Nat) (L : List (List UInt8 × List UInt8)) : nm (rot k L) = rot k (nm L) := by
  unfold nm rot
  rw [List.map_append, List.map_drop, List.map_take]
section
variable {n m t k : Nat} {To : List Nat}
theorem made_nodup (hm : m ≤ 12) : (nm (rot k (lkN n m To))).Nodup := by
  rw [nm_rot, lk_nm]
  exact (rot_perm _ _).nodup_iff.2 (lk_nodup hm)
theorem made_nm {x : List UInt8} : x ∈ nm (rot k (lkN n m To)) ↔ ∃ i, i < m ∧ x = lName i := by
  rw [nm_rot, lk_nm, rot_mem, List.mem_map]
  constructor
  · rintro ⟨i, hi, rfl⟩; exact ⟨i, List.mem_range.1 hi, rfl⟩
  · rintro ⟨i, hi, rfl⟩; exact ⟨i, List.mem_range.2 hi, rfl⟩
theorem made_tgt (hm : m ≤ 12) {i : Nat} (hi : i < m) : tgt (rot k (lkN n m To)) (lName i) = tOf n (bOf To i) i :=
  tgt_of (made_nodup hm) ((rot_mem _ _ _).2 (List.mem_map.2 ⟨i, List.mem_range.2 hi, rfl⟩))
theorem l_not_z {i : Nat} : lName i ∉ zN n t := fun h => by
  obtain ⟨j, _, e⟩ := zN_mem.1 h
  exact z_ne_l j i e.symm
/-- each link ends at a zone -/
theorem made_ends (hn : 0 < n) (hm : m ≤ 12) : ∀ (i f : Nat), i < m → i + 2 ≤ f → ∃ j, j < n ∧ findG (zN n t) (rot k (lkN n m To)) f (lName i) = ((zN n t).idxOf (zName j), 0) := by
  intro i
  induction i using Nat.strongRecOn with
  | _ i ih =>
    intro f hi hf
    obtain ⟨g, rfl⟩ : ∃ g, f = g + 1 := ⟨f - 1, by omega⟩
    unfold findG
    rw [if_neg l_not_z, if_pos (made_nm.2 ⟨i, hi, rfl⟩), made_tgt hm hi]
    unfold tOf
    by_cases hb : n ≤ bOf To i % (n + i)
    · rw [if_pos hb]
      have hlt := Nat.mod_lt (bOf To i) (show n + i > 0 by omega)
      exact ih _ (by omega) g (by omega) (by omega)
    · rw [if_neg hb]
      obtain ⟨g', rfl⟩ : ∃ g', g = g' + 1 := ⟨g - 1, by omega⟩
      refine ⟨bOf To i % n, Nat.mod_lt _ hn, ?_⟩
      unfold findG
      rw [if_pos (zN_mem.2 ⟨_, Nat.mod_lt _ hn, rfl⟩)]
theorem idx_nodup {l : List (List UInt8)} (h : l.Nodup) {i : Nat} {x : List UInt8} (hx : l[i]? = some x) : l.idxOf x = i := by
  obtain ⟨hi, e⟩ := List.getElem?_eq_some_iff.1 hx
  subst e
  exact h.idxOf_getElem i hi
theorem made_len : (rot k (lkN n m To)).length = m := by
  rw [(rot_perm _ _).length_eq]
  unfold lkN
  rw [List.length_map, List.length_range]
theorem zN_len : (zN n t).length = n := by unfold zN; rw [List.length_map, List.length_range]
theorem getD_at {l : List (List UInt8)} {j : Nat} (h : j < l.length) : l[j]? = some (l.getD j []) := by
  rw [List.getD, List.getElem?_eq_getElem h]
  rfl
/-- nothing is wrong with a source by numbers -/
theorem made_fine (hn : 0 < n) (hn6 : n ≤ 6) (hm : m ≤ 12) : checkL (zN n t) (rot k (lkN n m To)) zoneOk = ((0, 0), 0) := by
  refine check_fine _ _ _ (fun j hj => ?_) (fun j hj => ?_) (fun j hj => ?_)
  · have hx := getD_at hj
    obtain ⟨i, hi, e⟩ := zN_mem.1 (List.mem_of_getElem? hx)
    unfold zoneE
    rw [idx_nodup (zN_nodup hn6) hx, e, zOk (by omega), if_neg (by decide), if_neg (fun q => q rfl)]
  · have hj2 : j < (nm (rot k (lkN n m To))).length := by rw [nm_len]; exact hj
    have hx := getD_at hj2
    obtain ⟨i, hi, e⟩ := made_nm.1 (List.mem_of_getElem? hx)
    have hp : (rot k (lkN n m To))[j]? = some ((rot k (lkN n m To)).getD j ([], [])) := by
      rw [List.getD, List.getElem?_eq_getElem hj]
      rfl
    have hmem := (rot_mem _ _ _).1 (List.mem_of_getElem? hp)
    obtain ⟨i2, hi2, e2⟩ := List.mem_map.1 hmem
    have hi2 := List.mem_range.1 hi2
    unfold linkE
    rw [idx_nodup (made_nodup hm) hx, e, lOk (by omega), if_neg (by decide), if_neg (by rintro (q | q); exact l_not_z q; exact q rfl), if_neg]
    rintro ⟨h1, h2⟩
    rw [← e2] at h1 h2
    dsimp only at h1 h2
    unfold tOf at h1 h2
    by_cases hb : n ≤ bOf To i2 % (n + i2)
    · rw [if_pos hb] at h2
      have hlt := Nat.mod_lt (bOf To i2) (show n + i2 > 0 by omega)
      exact h2 (made_nm.2 ⟨_, by omega, rfl⟩)
    · rw [if_neg hb] at h1
      exact h1 (zN_mem.2 ⟨_, Nat.mod_lt _ hn, rfl⟩)
  · have hj2 : j < (nm (rot k (lkN n m To))).length := by rw [nm_len]; exact hj
    have hx := getD_at hj2
    obtain ⟨i, hi, e⟩ := made_nm.1 (List.mem_of_getElem? hx)
    unfold findL
    rw [e, made_len]
    obtain ⟨j', _, h⟩ := made_ends (t := t) (k := k) (To := To) hn hm i (m + 1) hi (by omega)
    rw [h]
    exact fun q => absurd q (by decide : ¬ (0 : Int) = 11)
end
end Go.Proofs.YtdeompnaojiajaaDoor.Ld
