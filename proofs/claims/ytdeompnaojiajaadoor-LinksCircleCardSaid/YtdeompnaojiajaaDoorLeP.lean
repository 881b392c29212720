/- What the names of a source by numbers are, and what they stand for, plain. -/
import Derived.Test.YtdeompnaojiajaaDoorLdR
namespace Go.Proofs.YtdeompnaojiajaaDoor.Ld
open Lk

theorem find_more (Z : List (List UInt8)) (L : List (List UInt8 × List UInt8)) : ∀ (k : Nat) (n : List UInt8), (findG Z L k n).2 ≠ 11 → findG Z L (k + 1) n = findG Z L k n
  | 0, n, h => absurd rfl h
  | k + 1, n, h => by
    unfold findG at h ⊢
    by_cases hz : n ∈ Z
    · rw [if_pos hz, if_pos hz]
    · rw [if_neg hz] at h
      rw [if_neg hz, if_neg hz]
      by_cases hm : n ∈ nm L
      · rw [if_pos hm] at h
        rw [if_pos hm, if_pos hm]
        exact find_more Z L k _ h
      · rw [if_neg hm, if_neg hm]
theorem short_l : ((List.range 12).all fun i => decide (2 ≤ (lName i).length)) = true := by kernel_rfl
theorem short_z : ((List.range 6).all fun i => decide (2 ≤ (zName i).length)) = true := by kernel_rfl
section
variable {n m t k : Nat} {To : List Nat}
theorem names_len (hn6 : n ≤ 6) (hm : m ≤ 12) : (namesL (zN n t) (rot k (lkN n m To))).length = n + m := by
  have h1 : (zN n t ++ nm (rot k (lkN n m To))).Nodup := List.nodup_append.2 ⟨zN_nodup hn6, made_nodup hm, fun a ha b hb e => by
    obtain ⟨i, hi, rfl⟩ := made_nm.1 hb
    rw [e] at ha
    exact l_not_z ha⟩
  have h2 : (namesL (zN n t) (rot k (lkN n m To))).Nodup := (names_incr _ _).imp (fun {a b} h e => by rw [e] at h; exact Std.lt_irrefl h)
  have h3 : (zN n t ++ nm (rot k (lkN n m To))).length = n + m := by rw [List.length_append, zN_len, nm_len, made_len]
  have h4 := nodup_le _ _ h2 (fun x hx => List.mem_append.2 ((names_mem _ _ _).1 hx))
  have h5 := nodup_le _ _ h1 (fun x hx => (names_mem _ _ _).2 (List.mem_append.1 hx))
  omega
theorem zone_self (hn6 : n ≤ 6) {i : Nat} (hi : i < n) (L : List (List UInt8 × List UInt8)) : findL (zN n t) L ((zN n t).getD i []) = (i, 0) := by
  have hx := getD_at (l := zN n t) (j := i) (by rw [zN_len]; exact hi)
  unfold findL findG
  rw [if_pos (List.mem_of_getElem? hx), idx_nodup (zN_nodup hn6) hx]
/-- a link stands for what its target stands for -/
theorem link_ends (hn : 0 < n) (hm : m ≤ 12) {p : List UInt8 × List UInt8} (hp : p ∈ rot k (lkN n m To)) :
    ∃ j, j < n ∧ findL (zN n t) (rot k (lkN n m To)) p.1 = (j, 0) ∧ findL (zN n t) (rot k (lkN n m To)) p.2 = (j, 0) := by
  obtain ⟨i, hi, e⟩ := List.mem_map.1 ((rot_mem _ _ _).1 hp)
  have hi := List.mem_range.1 hi
  have e1 : p.1 = lName i := by rw [← e]
  have hmem : lName i ∈ nm (rot k (lkN n m To)) := made_nm.2 ⟨i, hi, rfl⟩
  have ht : tgt (rot k (lkN n m To)) (lName i) = p.2 := tgt_of (made_nodup hm) (by rw [← e1]; exact hp)
  obtain ⟨j, hj, hf⟩ := made_ends (t := t) (k := k) (To := To) hn hm i (m + 1) hi (by omega)
  have hzj : zName j ∈ zN n t := zN_mem.2 ⟨j, hj, rfl⟩
  have hstep : findG (zN n t) (rot k (lkN n m To)) (m + 1) (lName i) = findG (zN n t) (rot k (lkN n m To)) m p.2 := by
    rw [findG, if_neg l_not_z, if_pos hmem, ht]
  rw [hstep] at hf
  have hmore := find_more (zN n t) (rot k (lkN n m To)) m p.2 (by rw [hf]; exact fun q => absurd q (by decide : ¬ (0 : Int) = 11))
  refine ⟨(zN n t).idxOf (zName j), by have := List.idxOf_lt_length_of_mem hzj; rw [zN_len] at this; exact this, ?_, ?_⟩
  · unfold findL
    rw [made_len, e1, hstep, hf]
  · unfold findL
    rw [made_len, hmore, hf]
theorem no_name (hn6 : n ≤ 6) (hm : m ≤ 12) {x : List UInt8} (hx : x.length < 2) : findL (zN n t) (rot k (lkN n m To)) x = (0, 9) := by
  have h1 : x ∉ zN n t := fun h => by
    obtain ⟨j, hj, rfl⟩ := zN_mem.1 h
    have := of_decide_eq_true (List.all_eq_true.1 short_z j (List.mem_range.2 (by omega)))
    omega
  have h2 : x ∉ nm (rot k (lkN n m To)) := fun h => by
    obtain ⟨j, hj, rfl⟩ := made_nm.1 h
    have := of_decide_eq_true (List.all_eq_true.1 short_l j (List.mem_range.2 (by omega)))
    omega
  unfold findL findG
  rw [if_neg h1, if_neg h2]
end
end Go.Proofs.YtdeompnaojiajaaDoor.Ld
