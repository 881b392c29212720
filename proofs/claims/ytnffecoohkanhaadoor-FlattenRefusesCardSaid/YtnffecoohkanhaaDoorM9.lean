/- What the names of a source by numbers are, and what they stand for, plain. Sources by numbers with links more that lead nowhere, or in a circle, plain. -/
import Derived.Test.YtnffecoohkanhaaDoorM5
namespace Go.Proofs.YtnffecoohkanhaaDoor.Ld
open Lk

theorem find_more (Z : List (List UInt8)) (L : List (List UInt8 × List UInt8)) : ∀ (k : Nat) (n : List UInt8), (findG Z L k n).2 ≠ 11 → findG Z L (k + 1) n = findG Z L k n
  | 0, n, h => absurd rfl h
  | k + 1, n, h => by
    unfold findG at h ⊢
    by_cases hz : n ∈ Z
    · rw [if_pos hz, if_pos hz]
    · rw [if_neg hz] at h
      rw [if_neg hz, if_neg hz]
      by_cases hm : n ∈ nm L
      · rw [if_pos hm] at h
        rw [if_pos hm, if_pos hm]
        exact find_more Z L k _ h
      · rw [if_neg hm, if_neg hm]
theorem short_l : ((List.range 12).all fun i => decide (2 ≤ (lName i).length)) = true := by kernel_rfl
theorem short_z : ((List.range 6).all fun i => decide (2 ≤ (zName i).length)) = true := by kernel_rfl
section
variable {n m t k : Nat} {To : List Nat}
theorem names_len (hn6 : n ≤ 6) (hm : m ≤ 12) : (namesL (zN n t) (rot k (lkN n m To))).length = n + m := by
  have h1 : (zN n t ++ nm (rot k (lkN n m To))).Nodup := List.nodup_append.2 ⟨zN_nodup hn6, made_nodup hm, fun a ha b hb e => by
    obtain ⟨i, hi, rfl⟩ := made_nm.1 hb
    rw [e] at ha
    exact l_not_z ha⟩
  have h2 : (namesL (zN n t) (rot k (lkN n m To))).Nodup := (names_incr _ _).imp (fun {a b} h e => by rw [e] at h; exact Std.lt_irrefl h)
  have h3 : (zN n t ++ nm (rot k (lkN n m To))).length = n + m := by rw [List.length_append, zN_len, nm_len, made_len]
  have h4 := nodup_le _ _ h2 (fun x hx => List.mem_append.2 ((names_mem _ _ _).1 hx))
  have h5 := nodup_le _ _ h1 (fun x hx => (names_mem _ _ _).2 (List.mem_append.1 hx))
  omega
theorem zone_self (hn6 : n ≤ 6) {i : Nat} (hi : i < n) (L : List (List UInt8 × List UInt8)) : findL (zN n t) L ((zN n t).getD i []) = (i, 0) := by
  have hx := getD_at (l := zN n t) (j := i) (by rw [zN_len]; exact hi)
  unfold findL findG
  rw [if_pos (List.mem_of_getElem? hx), idx_nodup (zN_nodup hn6) hx]
/-- a link stands for what its target stands for -/
theorem link_ends (hn : 0 < n) (hm : m ≤ 12) {p : List UInt8 × List UInt8} (hp : p ∈ rot k (lkN n m To)) :
    ∃ j, j < n ∧ findL (zN n t) (rot k (lkN n m To)) p.1 = (j, 0) ∧ findL (zN n t) (rot k (lkN n m To)) p.2 = (j, 0) := by
  obtain ⟨i, hi, e⟩ := List.mem_map.1 ((rot_mem _ _ _).1 hp)
  have hi := List.mem_range.1 hi
  have e1 : p.1 = lName i := by rw [← e]
  have hmem : lName i ∈ nm (rot k (lkN n m To)) := made_nm.2 ⟨i, hi, rfl⟩
  have ht : tgt (rot k (lkN n m To)) (lName i) = p.2 := tgt_of (made_nodup hm) (by rw [← e1]; exact hp)
  obtain ⟨j, hj, hf⟩ := made_ends (t := t) (k := k) (To := To) hn hm i (m + 1) hi (by omega)
  have hzj : zName j ∈ zN n t := zN_mem.2 ⟨j, hj, rfl⟩
  have hstep : findG (zN n t) (rot k (lkN n m To)) (m + 1) (lName i) = findG (zN n t) (rot k (lkN n m To)) m p.2 := by
    rw [findG, if_neg l_not_z, if_pos hmem, ht]
  rw [hstep] at hf
  have hmore := find_more (zN n t) (rot k (lkN n m To)) m p.2 (by rw [hf]; exact fun q => absurd q (by decide : ¬ (0 : Int) = 11))
  refine ⟨(zN n t).idxOf (zName j), by have := List.idxOf_lt_length_of_mem hzj; rw [zN_len] at this; exact this, ?_, ?_⟩
  · unfold findL
    rw [made_len, e1, hstep, hf]
  · unfold findL
    rw [made_len, hmore, hf]
theorem no_name (hn6 : n ≤ 6) (hm : m ≤ 12) {x : List UInt8} (hx : x.length < 2) : findL (zN n t) (rot k (lkN n m To)) x = (0, 9) := by
  have h1 : x ∉ zN n t := fun h => by
    obtain ⟨j, hj, rfl⟩ := zN_mem.1 h
    have := of_decide_eq_true (List.all_eq_true.1 short_z j (List.mem_range.2 (by omega)))
    omega
  have h2 : x ∉ nm (rot k (lkN n m To)) := fun h => by
    obtain ⟨j, hj, rfl⟩ := made_nm.1 h
    have := of_decide_eq_true (List.all_eq_true.1 short_l j (List.mem_range.2 (by omega)))
    omega
  unfold findL findG
  rw [if_neg h1, if_neg h2]
end
end Go.Proofs.YtnffecoohkanhaaDoor.Ld
namespace Go.Proofs.YtnffecoohkanhaaDoor.Ld
open Lk

def l99n : List UInt8 := [76, 57, 57]
def l98n : List UInt8 := [76, 57, 56]
theorem l98_eq : l98n = lName 98 := by kernel_rfl
theorem l99_eq : l99n = lName 99 := by kernel_rfl
theorem l98_far : ((List.range 12).all fun i => decide (lName i ≠ l98n)) = true := by kernel_rfl
theorem l99_far : ((List.range 12).all fun i => decide (lName i ≠ l99n)) = true := by kernel_rfl
theorem l99_ok : zoneOk l99n = true ∧ zoneOk l98n = true := by constructor <;> kernel_rfl
theorem tgt_app {L E : List (List UInt8 × List UInt8)} {x : List UInt8} (h : x ∈ nm L) : tgt (L ++ E) x = tgt L x := by
  have hi := List.idxOf_lt_length_of_mem h
  have hi2 : (nm L).idxOf x < L.length := by rw [nm_len] at hi; exact hi
  have e : nm (L ++ E) = nm L ++ nm E := by unfold nm; rw [List.map_append]
  unfold tgt
  rw [e, List.idxOf_append, if_pos h, List.getD, List.getD, List.getElem?_append_left hi2]
/-- what ends at a zone ends there with further links, too -/
theorem find_app {Z : List (List UInt8)} {L E : List (List UInt8 × List UInt8)} : ∀ (k : Nat) (x : List UInt8) (j : Nat), findG Z L k x = (j, 0) → findG Z (L ++ E) k x = (j, 0)
  | 0, x, j, h => by unfold findG at h; simp at h
  | k + 1, x, j, h => by
    unfold findG at h ⊢
    by_cases hz : x ∈ Z
    · rw [if_pos hz] at h ⊢
      exact h
    · rw [if_neg hz] at h ⊢
      by_cases hm : x ∈ nm L
      · rw [if_pos hm] at h
        rw [if_pos (by unfold nm; rw [List.map_append]; exact List.mem_append_left _ hm), tgt_app hm]
        exact find_app k _ j h
      · rw [if_neg hm] at h
        simp at h
section
variable {n m t k : Nat} {To : List Nat}
theorem l98_nm (hm : m ≤ 12) : l98n ∉ nm (rot k (lkN n m To)) := by
  intro h
  obtain ⟨i, hi, e⟩ := made_nm.1 h
  exact of_decide_eq_true (List.all_eq_true.1 l98_far i (List.mem_range.2 (by omega))) e.symm
theorem l99_nm' (hm : m ≤ 12) : l99n ∉ nm (rot k (lkN n m To)) := by
  intro h
  obtain ⟨i, hi, e⟩ := made_nm.1 h
  exact of_decide_eq_true (List.all_eq_true.1 l99_far i (List.mem_range.2 (by omega))) e.symm
theorem l98_z : l98n ∉ zN n t := by rw [l98_eq]; exact l_not_z
theorem l99_z' : l99n ∉ zN n t := by rw [l99_eq]; exact l_not_z
/-- one link more, to a name that is not known -/
theorem far_more (hn : 0 < n) (hn6 : n ≤ 6) (hm : m ≤ 12) : checkL (zN n t) (rot k (lkN n m To) ++ [(l99n, l98n)]) zoneOk = ((3, (m : Int)), 9) := by
  obtain ⟨L, hL⟩ : ∃ L, rot k (lkN n m To) = L := ⟨_, rfl⟩
  have hlen : L.length = m := by rw [← hL]; exact made_len
  have hnl : (nm L).length = m := by rw [nm_len]; exact hlen
  have h99 : l99n ∉ nm L := by rw [← hL]; exact l99_nm' hm
  have h98 : l98n ∉ nm L := by rw [← hL]; exact l98_nm hm
  have hnm : nm (L ++ [(l99n, l98n)]) = nm L ++ [l99n] := by unfold nm; rw [List.map_append]; rfl
  have hat : (nm (L ++ [(l99n, l98n)])).getD m [] = l99n := by
    rw [hnm, List.getD, List.getElem?_append_right (by omega), hnl, Nat.sub_self]
    rfl
  have hix : (nm (L ++ [(l99n, l98n)])).idxOf l99n = m := by
    rw [hnm, List.idxOf_append, if_neg h99, hnl]
    simp
  have hpt : ((L ++ [(l99n, l98n)]).getD m ([], [])).2 = l98n := by
    rw [List.getD, List.getElem?_append_right (by omega), hlen, Nat.sub_self]
    rfl
  have e : linkE (zN n t) (L ++ [(l99n, l98n)]) zoneOk m = 9 := by
    unfold linkE
    rw [hat, l99_ok.1, if_neg (by decide), if_neg (by rintro (q | q); exact l99_z' q; exact q hix), hpt, if_pos]
    refine ⟨l98_z, fun q => ?_⟩
    rw [hnm] at q
    rcases List.mem_append.1 q with q | q
    · exact h98 q
    · exact absurd (List.mem_singleton.1 q) (by decide)
  rw [hL, check_link _ _ _ (fun j hj => made_zoneE hn6 (by rw [zN_len] at hj; exact hj)) (i := m) (by rw [List.length_append, hlen]; show m < m + 1; omega) (by rw [e]; decide) (fun j hj => ?_), e]
  have h0 : linkE (zN n t) L zoneOk j = 0 := by rw [← hL]; exact made_linkE hn hm hj
  exact linkE_same (by omega) (fun a ha => by rw [snoc_at (by omega)]) (snoc_at (by omega)) (fun x hx => by rw [hnm]; exact List.mem_append_left _ hx) h0
/-- two links more, in a circle -/
theorem circle_more (hn : 0 < n) (hn6 : n ≤ 6) (hm : m ≤ 12) : checkL (zN n t) (rot k (lkN n m To) ++ [(l99n, l98n), (l98n, l99n)]) zoneOk = ((3, (m : Int)), 11) := by
  obtain ⟨L, hL⟩ : ∃ L, rot k (lkN n m To) = L := ⟨_, rfl⟩
  have hlen : L.length = m := by rw [← hL]; exact made_len
  have hnl : (nm L).length = m := by rw [nm_len]; exact hlen
  have h99 : l99n ∉ nm L := by rw [← hL]; exact l99_nm' hm
  have h98 : l98n ∉ nm L := by rw [← hL]; exact l98_nm hm
  obtain ⟨L2, hL2⟩ : ∃ X, L ++ [(l99n, l98n), (l98n, l99n)] = X := ⟨_, rfl⟩
  have hlen2 : L2.length = m + 2 := by rw [← hL2, List.length_append, hlen]; rfl
  have hnm : nm L2 = nm L ++ [l99n, l98n] := by rw [← hL2]; unfold nm; rw [List.map_append]; rfl
  have hget : ∀ j, j < 2 → (nm L2).getD (m + j) [] = ([l99n, l98n] : List (List UInt8)).getD j [] := by
    intro j hj
    rw [hnm, List.getD, List.getElem?_append_right (by omega), hnl, Nat.add_sub_cancel_left]
    rfl
  have hpt : ∀ j, j < 2 → L2.getD (m + j) ([], []) = ([(l99n, l98n), (l98n, l99n)] : List (List UInt8 × List UInt8)).getD j ([], []) := by
    intro j hj
    rw [← hL2, List.getD, List.getElem?_append_right (by omega), hlen, Nat.add_sub_cancel_left]
    rfl
  have hne : l99n ≠ l98n := by decide
  have hix9 : (nm L2).idxOf l99n = m := by
    rw [hnm, List.idxOf_append, if_neg h99, hnl]
    simp
  have hix8 : (nm L2).idxOf l98n = m + 1 := by
    rw [hnm, List.idxOf_append, if_neg h98, hnl, List.idxOf_cons]
    have e : (l99n == l98n) = false := by decide
    rw [e]
    simp
    omega
  have hin9 : l99n ∈ nm L2 := by rw [hnm]; simp
  have hin8 : l98n ∈ nm L2 := by rw [hnm]; simp
  have ht9 : tgt L2 l99n = l98n := by
    unfold tgt
    rw [hix9, show m = m + 0 from rfl, hpt 0 (by omega)]
    rfl
  have ht8 : tgt L2 l98n = l99n := by
    unfold tgt
    rw [hix8, hpt 1 (by omega)]
    rfl
  rw [hL, hL2]
  refine check_loop _ _ _ (fun j hj => made_zoneE hn6 (by rw [zN_len] at hj; exact hj)) (fun j hj => ?_) (by omega) ?_ (fun j hj => ?_)
  · rw [hlen2] at hj
    by_cases hjm : j < m
    · have h0 : linkE (zN n t) L zoneOk j = 0 := by rw [← hL]; exact made_linkE hn hm hjm
      have hsame : ∀ a, a < m → L2[a]? = L[a]? := fun a ha => by rw [← hL2]; exact List.getElem?_append_left (by omega)
      exact linkE_same (by omega) (fun a ha => by rw [hsame a (by omega)]) (hsame j hjm) (fun x hx => by rw [hnm]; exact List.mem_append_left _ hx) h0
    · rcases (show j = m ∨ j = m + 1 by omega) with rfl | rfl
      · refine linkE_fine.2 ?_
        have e1 := hget 0 (by omega)
        have e2 := hpt 0 (by omega)
        rw [Nat.add_zero] at e1 e2
        rw [e1, e2]
        exact ⟨l99_ok.1, l99_z', hix9, .inr hin8⟩
      · refine linkE_fine.2 ?_
        rw [hget 1 (by omega), hpt 1 (by omega)]
        exact ⟨l99_ok.2, l98_z, hix8, .inr hin9⟩
  · have e1 := hget 0 (by omega)
    rw [Nat.add_zero] at e1
    rw [e1]
    show (findL (zN n t) L2 l99n).2 = 11
    unfold findL
    rw [loop_closed (zN n t) L2 (S := [l99n, l98n]) (fun y hy => ?_) _ l99n (by simp)]
    rcases List.mem_cons.1 hy with rfl | hy
    · exact ⟨l99_z', hin9, by rw [ht9]; simp⟩
    · rw [List.mem_singleton.1 hy]
      exact ⟨l98_z, hin8, by rw [ht8]; simp⟩
  · have hjl : j < (nm L).length := by omega
    have e : (nm L2).getD j [] = (nm L).getD j [] := by rw [hnm, List.getD, List.getD, List.getElem?_append_left hjl]
    have hx := getD_at hjl
    rw [e]
    have hmem : (nm L).getD j [] ∈ nm (rot k (lkN n m To)) := by rw [hL]; exact List.mem_of_getElem? hx
    obtain ⟨p, hp, hpe⟩ := List.mem_map.1 hmem
    obtain ⟨z, _, hf, _⟩ := link_ends (t := t) hn hm hp
    have hpe : p.1 = (nm L).getD j [] := hpe
    rw [hL, hpe] at hf
    unfold findL at hf ⊢
    have h1 := find_app (E := [(l99n, l98n), (l98n, l99n)]) _ _ _ hf
    rw [hL2, hlen] at h1
    have h2 := find_more (zN n t) L2 (m + 1) _ (by rw [h1]; exact fun q => absurd q (by decide : ¬ (0 : Int) = 11))
    rw [h1] at h2
    have h3 := find_more (zN n t) L2 (m + 2) _ (by rw [h2]; exact fun q => absurd q (by decide : ¬ (0 : Int) = 11))
    rw [h2] at h3
    rw [hlen2, h3]
    exact fun q => absurd q (by decide : ¬ (0 : Int) = 11)
end
end Go.Proofs.YtnffecoohkanhaaDoor.Ld
