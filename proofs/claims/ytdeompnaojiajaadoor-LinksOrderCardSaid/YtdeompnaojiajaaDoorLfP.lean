/- Sources by numbers whose zones and links are moved, plain. -/
import Derived.Test.YtdeompnaojiajaaDoorLeP
namespace Go.Proofs.YtdeompnaojiajaaDoor.Ld
open Lk

theorem rot_len {α : Type} (k : Nat) (l : List α) : (rot k l).length = l.length := (rot_perm k l).length_eq
theorem rot_get {α : Type} {k i : Nat} {l : List α} (hk : k ≤ l.length) (hi : i < l.length) : (rot k l)[i]? = l[(i + k) % l.length]? := by
  unfold rot
  by_cases h : i < l.length - k
  · rw [List.getElem?_append_left (by rw [List.length_drop]; exact h), List.getElem?_drop, Nat.mod_eq_of_lt (by omega), Nat.add_comm]
  · rw [List.getElem?_append_right (by rw [List.length_drop]; omega), List.length_drop, List.getElem?_take, if_pos (by omega)]
    have e : (i + k) % l.length = i + k - l.length := by
      rw [Nat.mod_eq_sub_mod (by omega), Nat.mod_eq_of_lt (by omega)]
    rw [e]
    congr 1
    omega
theorem rot_rot {α : Type} {k j : Nat} {l : List α} (hk : k ≤ l.length) (hj : j ≤ l.length) (h0 : 0 < l.length) : rot j (rot k l) = rot ((j + k) % l.length) l := by
  have hm := Nat.mod_lt (j + k) h0
  apply List.ext_getElem?
  intro i
  by_cases hi : i < l.length
  · rw [rot_get (by rw [rot_len]; exact hj) (by rw [rot_len]; exact hi), rot_len, rot_get hk (Nat.mod_lt _ h0), rot_get (by omega) hi]
    congr 1
    rw [Nat.mod_add_mod, Nat.add_mod_mod, Nat.add_assoc]
  · rw [List.getElem?_eq_none (by rw [rot_len, rot_len]; omega), List.getElem?_eq_none (by rw [rot_len]; omega)]
theorem zN_get {n t i : Nat} (hi : i < n) : (zN n t)[i]? = some (zName ((i + t) % n)) := by
  unfold zN
  rw [List.getElem?_map, List.getElem?_range hi]
  rfl
theorem rot_zN {n t k : Nat} (hk : k ≤ n) : rot k (zN n t) = zN n (t + k) := by
  apply List.ext_getElem?
  intro i
  by_cases hi : i < n
  · have h0 : 0 < n := by omega
    rw [rot_get (by rw [zN_len]; exact hk) (by rw [zN_len]; exact hi), zN_len, zN_get (Nat.mod_lt _ h0), zN_get hi, Nat.mod_add_mod, Nat.add_assoc, Nat.add_comm k t]
  · rw [List.getElem?_eq_none (by rw [rot_len, zN_len]; omega), List.getElem?_eq_none (by rw [zN_len]; omega)]
section
variable {n m : Nat} {To : List Nat}
/-- where a link ends does not hang on the order -/
theorem ends_same (hn : 0 < n) (hm : m ≤ 12) : ∀ (i : Nat), i < m → ∃ j, j < n ∧ ∀ (t k f : Nat), i + 2 ≤ f → findG (zN n t) (rot k (lkN n m To)) f (lName i) = ((zN n t).idxOf (zName j), 0) := by
  intro i
  induction i using Nat.strongRecOn with
  | _ i ih =>
    intro hi
    by_cases hb : n ≤ bOf To i % (n + i)
    · have hlt := Nat.mod_lt (bOf To i) (show n + i > 0 by omega)
      obtain ⟨j, hj, h⟩ := ih (bOf To i % (n + i) - n) (by omega) (by omega)
      refine ⟨j, hj, fun t k f hf => ?_⟩
      obtain ⟨g, rfl⟩ : ∃ g, f = g + 1 := ⟨f - 1, by omega⟩
      rw [findG, if_neg l_not_z, if_pos (made_nm.2 ⟨i, hi, rfl⟩), made_tgt hm hi]
      unfold tOf
      rw [if_pos hb]
      exact h t k g (by omega)
    · refine ⟨bOf To i % n, Nat.mod_lt _ hn, fun t k f hf => ?_⟩
      obtain ⟨g, rfl⟩ : ∃ g, f = g + 2 := ⟨f - 2, by omega⟩
      rw [findG, if_neg l_not_z, if_pos (made_nm.2 ⟨i, hi, rfl⟩), made_tgt hm hi]
      unfold tOf
      rw [if_neg hb, findG, if_pos (zN_mem.2 ⟨_, Nat.mod_lt _ hn, rfl⟩)]
theorem find_same (hn : 0 < n) (hm : m ≤ 12) {x : List UInt8} {t0 k0 : Nat} (hx : x ∈ zN n t0 ∨ x ∈ nm (rot k0 (lkN n m To))) : ∃ j, j < n ∧ ∀ (t k : Nat), findL (zN n t) (rot k (lkN n m To)) x = ((zN n t).idxOf (zName j), 0) := by
  rcases hx with hx | hx
  · obtain ⟨j, hj, rfl⟩ := zN_mem.1 hx
    refine ⟨j, hj, fun t k => ?_⟩
    unfold findL
    rw [findG, if_pos (zN_mem.2 ⟨j, hj, rfl⟩)]
  · obtain ⟨i, hi, rfl⟩ := made_nm.1 hx
    obtain ⟨j, hj, h⟩ := ends_same (To := To) hn hm i hi
    refine ⟨j, hj, fun t k => ?_⟩
    unfold findL
    rw [made_len]
    exact h t k (m + 1) (by omega)
theorem idx_zN {t j : Nat} (hj : j < n) : (zN n t).idxOf (zName j) < n ∧ (zN n t).getD ((zN n t).idxOf (zName j)) [] = zName j := by
  have hm : zName j ∈ zN n t := zN_mem.2 ⟨j, hj, rfl⟩
  have h := List.idxOf_lt_length_of_mem hm
  refine ⟨by rw [zN_len] at h; exact h, ?_⟩
  rw [List.getD, List.getElem?_eq_getElem h]
  exact List.getElem_idxOf h
theorem names_same {t k t' k' : Nat} : namesL (zN n t) (rot k (lkN n m To)) = namesL (zN n t') (rot k' (lkN n m To)) :=
  incr_unique (names_incr _ _) (names_incr _ _) fun x => by
    rw [names_mem, names_mem, zN_mem, zN_mem, made_nm, made_nm]
end
end Go.Proofs.YtdeompnaojiajaaDoor.Ld
