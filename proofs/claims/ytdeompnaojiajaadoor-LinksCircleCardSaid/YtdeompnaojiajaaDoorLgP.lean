/- A source by numbers in which a link is turned back to one that leads to it: who goes in a circle, plain. -/
import Derived.Test.YtdeompnaojiajaaDoorLeP
namespace Go.Proofs.YtdeompnaojiajaaDoor.Ld
open Lk

/-- is a name reached from another one, within some steps? -/
def reachG (L : List (List UInt8 × List UInt8)) (nk : List UInt8) : Nat → List UInt8 → Bool
  | 0, _ => false
  | f + 1, x => if x ∈ nm L then (if x = nk then true else reachG L nk f (tgt L x)) else false
section
variable {n m k : Nat} {To : List Nat}
/-- the steps that are allowed suffice -/
theorem reach_stable (hn : 0 < n) (hm : m ≤ 12) (nk : List UInt8) : ∀ (i : Nat), i < m → ∀ f f', i + 1 ≤ f → i + 1 ≤ f' → reachG (rot k (lkN n m To)) nk f (lName i) = reachG (rot k (lkN n m To)) nk f' (lName i) := by
  intro i
  induction i using Nat.strongRecOn with
  | _ i ih =>
    intro hi f f' hf hf'
    obtain ⟨g, rfl⟩ : ∃ g, f = g + 1 := ⟨f - 1, by omega⟩
    obtain ⟨g', rfl⟩ : ∃ g, f' = g + 1 := ⟨f' - 1, by omega⟩
    rw [reachG, reachG, if_pos (made_nm.2 ⟨i, hi, rfl⟩), if_pos (made_nm.2 ⟨i, hi, rfl⟩), made_tgt hm hi]
    by_cases hx : lName i = nk
    · rw [if_pos hx, if_pos hx]
    · rw [if_neg hx, if_neg hx]
      unfold tOf
      by_cases hb : n ≤ bOf To i % (n + i)
      · rw [if_pos hb]
        have hlt := Nat.mod_lt (bOf To i) (show n + i > 0 by omega)
        exact ih _ (by omega) (by omega) g g' (by omega) (by omega)
      · rw [if_neg hb]
        have hz : ∀ g, reachG (rot k (lkN n m To)) nk g (zName (bOf To i % n)) = false := by
          intro g
          cases g with
          | zero => rfl
          | succ g =>
            rw [reachG, if_neg]
            intro h
            obtain ⟨a, _, e⟩ := made_nm.1 h
            exact z_ne_l _ _ e
        rw [hz, hz]
theorem reach_self {L : List (List UInt8 × List UInt8)} {nk : List UInt8} (h : nk ∈ nm L) (f : Nat) : reachG L nk (f + 1) nk = true := by
  rw [reachG, if_pos h, if_pos rfl]
/-- a link from which it is not far is reached with its target -/
theorem reach_next (hn : 0 < n) (hm : m ≤ 12) {nk x : List UInt8} (hx : x ∈ nm (rot k (lkN n m To))) (hne : x ≠ nk) : reachG (rot k (lkN n m To)) nk (m + 1) x = reachG (rot k (lkN n m To)) nk (m + 1) (tgt (rot k (lkN n m To)) x) := by
  rw [reachG, if_pos hx, if_neg hne]
  obtain ⟨i, hi, rfl⟩ := made_nm.1 hx
  rw [made_tgt hm hi]
  unfold tOf
  by_cases hb : n ≤ bOf To i % (n + i)
  · rw [if_pos hb]
    have hlt := Nat.mod_lt (bOf To i) (show n + i > 0 by omega)
    exact reach_stable hn hm nk _ (by omega) _ _ (by omega) (by omega)
  · rw [if_neg hb]
    have hz : ∀ g, reachG (rot k (lkN n m To)) nk g (zName (bOf To i % n)) = false := by
      intro g
      cases g with
      | zero => rfl
      | succ g =>
        rw [reachG, if_neg]
        intro h
        obtain ⟨a, _, e⟩ := made_nm.1 h
        exact z_ne_l _ _ e
    rw [hz, hz]
theorem reach_nm {L : List (List UInt8 × List UInt8)} {nk x : List UInt8} {f : Nat} (h : reachG L nk f x = true) : x ∈ nm L := by
  cases f with
  | zero => cases h
  | succ f =>
    rw [reachG] at h
    by_cases hx : x ∈ nm L
    · exact hx
    · rw [if_neg hx] at h
      cases h
/-- a link turned back -/
structure Turned (n m k : Nat) (To : List Nat) (L L' : List (List UInt8 × List UInt8)) (p : Nat) (nk nl : List UInt8) : Prop where
  orig : rot k (lkN n m To) = L
  pm : p < m
  at' : (L.getD p ([], [])).1 = nk
  eq : L' = L.set p (nk, nl)
  back : reachG L nk (m + 1) nl = true
section
variable {L L' : List (List UInt8 × List UInt8)} {p t : Nat} {nk nl : List UInt8}
theorem Turned.len (h : Turned n m k To L L' p nk nl) : L.length = m := by rw [← h.orig]; exact made_len
theorem Turned.got (h : Turned n m k To L L' p nk nl) : L[p]? = some (L.getD p ([], [])) := by
  rw [List.getD, List.getElem?_eq_getElem (by rw [h.len]; exact h.pm)]
  rfl
theorem Turned.self (h : Turned n m k To L L' p nk nl) : L'[p]? = some (nk, nl) := by
  rw [h.eq, List.getElem?_set_self (by rw [h.len]; exact h.pm)]
theorem Turned.other (h : Turned n m k To L L' p nk nl) {a : Nat} (ha : a ≠ p) : L'[a]? = L[a]? := by
  rw [h.eq, List.getElem?_set_ne (fun e => ha e.symm)]
theorem Turned.fst (h : Turned n m k To L L' p nk nl) (a : Nat) : L'[a]?.map Prod.fst = L[a]?.map Prod.fst := by
  by_cases ha : a = p
  · subst ha
    rw [h.self, h.got]
    simp only [Option.map_some, h.at']
  · rw [h.other ha]
theorem Turned.nm (h : Turned n m k To L L' p nk nl) : nm L' = nm L := by
  apply List.ext_getElem?
  intro a
  unfold Lk.nm
  rw [List.getElem?_map, List.getElem?_map]
  exact h.fst a
theorem Turned.nk_in (h : Turned n m k To L L' p nk nl) : nk ∈ Lk.nm L := by
  rw [← h.at']
  exact List.mem_map.2 ⟨_, List.mem_of_getElem? h.got, rfl⟩
theorem Turned.nodup (h : Turned n m k To L L' p nk nl) (hm : m ≤ 12) : (Lk.nm L).Nodup := by rw [← h.orig]; exact made_nodup hm
theorem Turned.tgt_k (h : Turned n m k To L L' p nk nl) (hm : m ≤ 12) : tgt L' nk = nl := tgt_of (by rw [h.nm]; exact h.nodup hm) (List.mem_of_getElem? h.self)
theorem Turned.tgt_o (h : Turned n m k To L L' p nk nl) (hm : m ≤ 12) {x : List UInt8} (hx : x ∈ Lk.nm L) (hne : x ≠ nk) : tgt L' x = tgt L x := by
  obtain ⟨q, hq, rfl⟩ := List.mem_map.1 hx
  obtain ⟨a, ha, e⟩ := List.getElem_of_mem hq
  have hg : L[a]? = some q := by rw [List.getElem?_eq_getElem ha, e]
  have hap : a ≠ p := by
    rintro rfl
    have := h.got
    rw [hg] at this
    exact hne (by rw [← h.at', ← Option.some.inj this])
  have h1 : tgt L q.1 = q.2 := tgt_of (h.nodup hm) hq
  have h2 : tgt L' q.1 = q.2 := tgt_of (by rw [h.nm]; exact h.nodup hm) (List.mem_of_getElem? ((h.other hap).trans hg))
  rw [h1, h2]
/-- who leads to the link goes in the circle -/
theorem Turned.loop (h : Turned n m k To L L' p nk nl) (hn : 0 < n) (hm : m ≤ 12) {x : List UInt8} (hx : reachG L nk (m + 1) x = true) (f : Nat) : findG (zN n t) L' f x = (0, 11) := by
  refine loop_closed _ _ (S := (Lk.nm L).filter fun y => reachG L nk (m + 1) y) (fun y hy => ?_) f x (List.mem_filter.2 ⟨reach_nm hx, hx⟩)
  obtain ⟨hy1, hy2⟩ := List.mem_filter.1 hy
  refine ⟨?_, by rw [h.nm]; exact hy1, ?_⟩
  · rw [← h.orig] at hy1
    obtain ⟨a, _, rfl⟩ := made_nm.1 hy1
    exact l_not_z
  · by_cases hne : y = nk
    · subst hne
      rw [h.tgt_k hm]
      exact List.mem_filter.2 ⟨reach_nm h.back, h.back⟩
    · rw [h.tgt_o hm hy1 hne]
      have hr : reachG L nk (m + 1) (tgt L y) = true := by
        have e := reach_next (To := To) (k := k) hn hm (nk := nk) (x := y) (by rw [h.orig]; exact hy1) hne
        rw [h.orig] at e
        rw [← e]
        exact hy2
      exact List.mem_filter.2 ⟨reach_nm hr, hr⟩
/-- who does not ends at a zone as before -/
theorem Turned.ends (h : Turned n m k To L L' p nk nl) (hn : 0 < n) (hm : m ≤ 12) : ∀ (i : Nat), i < m → reachG L nk (m + 1) (lName i) = false → ∀ f, i + 2 ≤ f → (findG (zN n t) L' f (lName i)).2 = 0 := by
  intro i
  induction i using Nat.strongRecOn with
  | _ i ih =>
    intro hi hr f hf
    have hmem : lName i ∈ Lk.nm L := by rw [← h.orig]; exact made_nm.2 ⟨i, hi, rfl⟩
    have hne : lName i ≠ nk := by
      intro e
      rw [e, reach_self h.nk_in] at hr
      cases hr
    obtain ⟨g, rfl⟩ : ∃ g, f = g + 1 := ⟨f - 1, by omega⟩
    have e := reach_next (To := To) (k := k) hn hm (nk := nk) (x := lName i) (by rw [h.orig]; exact hmem) hne
    rw [findG, if_neg l_not_z, h.nm, if_pos hmem, h.tgt_o hm hmem hne]
    rw [h.orig] at e
    rw [e] at hr
    have ht : tgt L (lName i) = tOf n (bOf To i) i := by rw [← h.orig]; exact made_tgt hm hi
    rw [ht] at hr ⊢
    unfold tOf at hr ⊢
    by_cases hb : n ≤ bOf To i % (n + i)
    · rw [if_pos hb] at hr ⊢
      have hlt := Nat.mod_lt (bOf To i) (show n + i > 0 by omega)
      exact ih _ (by omega) (by omega) hr g (by omega)
    · rw [if_neg hb]
      obtain ⟨g', rfl⟩ : ∃ g', g = g' + 1 := ⟨g - 1, by omega⟩
      rw [findG, if_pos (zN_mem.2 ⟨_, Nat.mod_lt _ hn, rfl⟩)]
/-- the error of each link -/
theorem Turned.err (h : Turned n m k To L L' p nk nl) (hn : 0 < n) (hm : m ≤ 12) {x : List UInt8} (hx : x ∈ Lk.nm L) : (findL (zN n t) L' x).2 = if reachG L nk (m + 1) x = true then 11 else 0 := by
  by_cases hr : reachG L nk (m + 1) x = true
  · rw [if_pos hr]
    unfold findL
    rw [h.loop hn hm hr]
  · rw [if_neg hr]
    have hl : L'.length = m := by rw [h.eq, List.length_set, h.len]
    rw [← h.orig] at hx
    obtain ⟨i, hi, rfl⟩ := made_nm.1 hx
    unfold findL
    rw [hl]
    exact h.ends hn hm i hi (by simpa using hr) (m + 1) (by omega)
/-- the first of them is found -/
theorem Turned.check (h : Turned n m k To L L' p nk nl) (hn : 0 < n) (hn6 : n ≤ 6) (hm : m ≤ 12) {i : Nat} (hi : i < m) (hr : reachG L nk (m + 1) (L.getD i ([], [])).1 = true) (hlow : ∀ j, j < i → reachG L nk (m + 1) (L.getD j ([], [])).1 = false) :
    checkL (zN n t) L' zoneOk = ((3, (i : Int)), 11) := by
  have hl : L'.length = m := by rw [h.eq, List.length_set, h.len]
  have hname : ∀ j, j < m → (Lk.nm L').getD j [] = (L.getD j ([], [])).1 ∧ (L.getD j ([], [])).1 ∈ Lk.nm L := by
    intro j hj
    have hg : L[j]? = some (L.getD j ([], [])) := by rw [List.getD, List.getElem?_eq_getElem (by rw [h.len]; exact hj)]; rfl
    refine ⟨?_, List.mem_map.2 ⟨_, List.mem_of_getElem? hg, rfl⟩⟩
    rw [h.nm]
    unfold Lk.nm
    rw [List.getD, List.getElem?_map, hg]
    rfl
  refine check_loop _ _ _ (fun j hj => made_zoneE hn6 (by rw [zN_len] at hj; exact hj)) (fun j hj => ?_) (by omega) ?_ (fun j hj => ?_)
  · rw [hl] at hj
    have h0 : linkE (zN n t) L zoneOk j = 0 := by rw [← h.orig]; exact made_linkE hn hm hj
    by_cases hjp : j = p
    · subst hjp
      obtain ⟨h1, h2, h3, _⟩ := linkE_fine.1 h0
      refine linkE_fine.2 ?_
      rw [h.nm]
      refine ⟨h1, h2, h3, .inr ?_⟩
      rw [List.getD, h.self]
      exact reach_nm h.back
    · exact linkE_same (by rw [h.len]; exact hj) (fun a _ => h.fst a) (h.other hjp) (fun x hx => by rw [h.nm]; exact hx) h0
  · obtain ⟨e1, e2⟩ := hname i hi
    rw [e1, h.err hn hm e2, if_pos hr]
  · obtain ⟨e1, e2⟩ := hname j (by omega)
    rw [e1, h.err hn hm e2, if_neg (by rw [hlow j hj]; decide)]
    decide
end
end
end Go.Proofs.YtdeompnaojiajaaDoor.Ld
