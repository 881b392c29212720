/- Sources without faults, plain: what their names stand for stays, whatever the order, and if the links lead to zones. No program in sight. Sources of chapter 23's drafts and of chapter 15's together, plain: their names are right and different, their links end. No program in sight. -/
import Derived.Test.YtnffecoohkanhaaDoorYFtJ
import Derived.Test.YtnffecoohkanhaaDoorM22
import Derived.Test.YtnffecoohkanhaaDoorM5
import Derived.Test.YtnffecoohkanhaaDoorYFtK
namespace Go.Proofs.YtnffecoohkanhaaDoor.Px
open Go.RowKit
open Lk Ld St

/-- nothing is wrong with the names and links -/
structure Fine (Z : List (List UInt8)) (L : List (List UInt8 × List UInt8)) : Prop where
  zn : Z.Nodup
  ln : (nm L).Nodup
  dis : ∀ x ∈ nm L, x ∉ Z
  zok : ∀ x ∈ Z, zoneOk x = true
  lok : ∀ x ∈ nm L, zoneOk x = true
  tg : ∀ p ∈ L, p.2 ∈ Z ∨ p.2 ∈ nm L
  ends : ∀ x ∈ nm L, (findL Z L x).2 ≠ 11
theorem nodup_idx {l : List (List UInt8)} (h : ∀ j, j < l.length → l.idxOf (l.getD j []) = j) : l.Nodup := by
  refine List.pairwise_iff_getElem.2 fun i j hi hj hij e => ?_
  have h1 := h i hi
  have h2 := h j hj
  rw [List.getD, List.getElem?_eq_getElem hi] at h1
  rw [List.getD, List.getElem?_eq_getElem hj] at h2
  simp only [Option.getD_some] at h1 h2
  rw [e] at h1
  omega
theorem idx_getD {l : List (List UInt8)} (h : l.Nodup) {j : Nat} (hj : j < l.length) : l.idxOf (l.getD j []) = j := by
  rw [List.getD, List.getElem?_eq_getElem hj]
  exact List.Nodup.idxOf_getElem h j hj
theorem getD_idx {l : List (List UInt8)} {x : List UInt8} (h : x ∈ l) : l.getD (l.idxOf x) [] = x := by
  have h1 := List.idxOf_lt_length_of_mem h
  rw [List.getD, List.getElem?_eq_getElem h1]
  exact List.getElem_idxOf h1
theorem mem_getD {l : List (List UInt8)} {x : List UInt8} (h : x ∈ l) : ∃ j, j < l.length ∧ l.getD j [] = x := ⟨l.idxOf x, List.idxOf_lt_length_of_mem h, getD_idx h⟩
theorem fine_of {Z : List (List UInt8)} {L : List (List UInt8 × List UInt8)} (h : checkL Z L zoneOk = ((0, 0), 0)) : Fine Z L := by
  obtain ⟨h1, h2, h3⟩ := fine_all h
  have hz : ∀ j, j < Z.length → zoneOk (Z.getD j []) = true ∧ Z.idxOf (Z.getD j []) = j := fun j hj => zoneE_fine.1 (h1 j hj)
  have hl := fun j (hj : j < L.length) => linkE_fine.1 (h2 j hj)
  have hx : ∀ x ∈ nm L, ∃ j, j < L.length ∧ (nm L).getD j [] = x := fun x hx => by
    obtain ⟨j, hj, e⟩ := mem_getD hx
    exact ⟨j, by rw [nm_len] at hj; exact hj, e⟩
  refine ⟨nodup_idx fun j hj => (hz j hj).2, nodup_idx fun j hj => ?_, fun x hxm => ?_, fun x hxm => ?_, fun x hxm => ?_, fun p hp => ?_, fun x hxm => ?_⟩
  · rw [nm_len] at hj
    exact (hl j hj).2.2.1
  · obtain ⟨j, hj, rfl⟩ := hx x hxm
    exact (hl j hj).2.1
  · obtain ⟨j, hj, rfl⟩ := mem_getD hxm
    exact (hz j hj).1
  · obtain ⟨j, hj, rfl⟩ := hx x hxm
    exact (hl j hj).1
  · obtain ⟨j, hj⟩ := List.getElem?_of_mem hp
    have hjl := (List.getElem?_eq_some_iff.1 hj).1
    have := (hl j hjl).2.2.2
    rwa [show L.getD j ([], []) = p by rw [List.getD, hj]; rfl] at this
  · obtain ⟨j, hj, rfl⟩ := hx x hxm
    have := h3 j hj
    unfold loopE at this
    intro e
    rw [if_pos e] at this
    cases this
theorem Fine.check {Z : List (List UInt8)} {L : List (List UInt8 × List UInt8)} (h : Fine Z L) : checkL Z L zoneOk = ((0, 0), 0) := by
  have hm : ∀ j, j < L.length → (nm L).getD j [] ∈ nm L := fun j hj => getD_mem (by rw [nm_len]; exact hj)
  refine check_fine Z L zoneOk (fun j hj => zoneE_fine.2 ⟨h.zok _ (getD_mem hj), idx_getD h.zn hj⟩) (fun j hj => linkE_fine.2 ⟨h.lok _ (hm j hj), h.dis _ (hm j hj), idx_getD h.ln (by rw [nm_len]; exact hj), h.tg _ (getP_mem hj)⟩) (fun j hj => h.ends _ (hm j hj))
theorem tgt_nodup {L : List (List UInt8 × List UInt8)} (hn : (nm L).Nodup) {p : List UInt8 × List UInt8} (hp : p ∈ L) : tgt L p.1 = p.2 := by
  obtain ⟨j, hj⟩ := List.getElem?_of_mem hp
  have hjl := (List.getElem?_eq_some_iff.1 hj).1
  have e : (nm L).getD j [] = p.1 := by unfold nm; rw [List.getD, List.getElem?_map, hj]; rfl
  have := idx_getD hn (j := j) (by rw [nm_len]; exact hjl)
  rw [e] at this
  unfold tgt
  rw [this, List.getD, hj]
  rfl
theorem nm_mem {L : List (List UInt8 × List UInt8)} {x : List UInt8} (h : x ∈ nm L) : ∃ p ∈ L, p.1 = x := by
  unfold nm at h
  obtain ⟨p, hp, e⟩ := List.mem_map.1 h
  exact ⟨p, hp, e⟩
theorem Fine.tgt {Z : List (List UInt8)} {L : List (List UInt8 × List UInt8)} (h : Fine Z L) {x : List UInt8} (hx : x ∈ nm L) : Lk.tgt L x ∈ Z ∨ Lk.tgt L x ∈ nm L := by
  obtain ⟨p, hp, rfl⟩ := nm_mem hx
  rw [tgt_nodup h.ln hp]
  exact h.tg p hp
/-- the zone that a name stands for -/
def endN (Z : List (List UInt8)) (L : List (List UInt8 × List UInt8)) (x : List UInt8) : List UInt8 := Z.getD (findL Z L x).1 []
theorem Fine.find {Z : List (List UInt8)} {L : List (List UInt8 × List UInt8)} (h : Fine Z L) {x : List UInt8} (hx : x ∈ Z ∨ x ∈ nm L) : endN Z L x ∈ Z ∧ findL Z L x = (Z.idxOf (endN Z L x), 0) := by
  have hk := known_find (Z := Z) (L := L) (fun y hy => h.tgt hy) (L.length + 1) x hx
  have key : ∃ j, j < Z.length ∧ findL Z L x = (j, 0) := by
    rcases hk with hk | hk
    · exfalso
      rcases hx with hx | hx
      · have : findG Z L (L.length + 1) x = (Z.idxOf x, 0) := by unfold findG; rw [if_pos hx]
        rw [this] at hk
        exact absurd (Prod.mk.inj hk).2 (by decide)
      · exact h.ends x hx (by unfold findL; rw [hk])
    · exact hk
  obtain ⟨j, hj, e⟩ := key
  unfold endN
  rw [e]
  exact ⟨getD_mem hj, by rw [idx_getD h.zn hj]⟩
theorem Fine.self {Z : List (List UInt8)} {L : List (List UInt8 × List UInt8)} (_ : Fine Z L) {x : List UInt8} (hx : x ∈ Z) : endN Z L x = x ∧ findL Z L x = (Z.idxOf x, 0) := by
  have e : findL Z L x = (Z.idxOf x, 0) := by unfold findL findG; rw [if_pos hx]
  unfold endN
  rw [e]
  exact ⟨getD_idx hx, rfl⟩
/-- the same zones and links in another order -/
theorem find_perm {Z Z' : List (List UInt8)} {L L' : List (List UInt8 × List UInt8)} (h : Fine Z L) (hz : Z'.Perm Z) (hl : L'.Perm L) : ∀ (k : Nat) (x z : List UInt8), z ∈ Z → findG Z L k x = (Z.idxOf z, 0) → findG Z' L' k x = (Z'.idxOf z, 0)
  | 0, _, _, _, e => by simp [findG] at e
  | k + 1, x, z, hzm, e => by
    have hln : (nm L').Nodup := (hl.map Prod.fst).nodup_iff.2 h.ln
    have hnm : ∀ y, y ∈ nm L' ↔ y ∈ nm L := fun y => (hl.map Prod.fst).mem_iff
    unfold findG at e ⊢
    by_cases hx : x ∈ Z
    · rw [if_pos hx] at e
      rw [if_pos (hz.mem_iff.2 hx)]
      have e1 : Z.idxOf x = Z.idxOf z := (Prod.mk.inj e).1
      have e2 : x = z := by rw [← getD_idx hx, e1, getD_idx hzm]
      rw [e2]
    · rw [if_neg hx] at e
      rw [if_neg (fun q => hx (hz.mem_iff.1 q))]
      by_cases hm : x ∈ nm L
      · rw [if_pos hm] at e
        rw [if_pos ((hnm x).2 hm)]
        obtain ⟨p, hp, rfl⟩ := nm_mem hm
        rw [tgt_nodup h.ln hp] at e
        rw [tgt_nodup hln (hl.mem_iff.2 hp)]
        exact find_perm h hz hl k _ z hzm e
      · rw [if_neg hm] at e
        simp at e
section
variable {Z Z' : List (List UInt8)} {L L' : List (List UInt8 × List UInt8)}
theorem Fine.perm_find (h : Fine Z L) (hz : Z'.Perm Z) (hl : L'.Perm L) {x : List UInt8} (hx : x ∈ Z ∨ x ∈ nm L) : findL Z' L' x = (Z'.idxOf (endN Z L x), 0) := by
  obtain ⟨h1, h2⟩ := h.find hx
  unfold findL
  rw [hl.length_eq]
  exact find_perm h hz hl _ x _ h1 h2
theorem Fine.perm_end (h : Fine Z L) (hz : Z'.Perm Z) (hl : L'.Perm L) {x : List UInt8} (hx : x ∈ Z ∨ x ∈ nm L) : endN Z' L' x = endN Z L x := by
  have e := h.perm_find hz hl hx
  show Z'.getD (findL Z' L' x).1 [] = _
  rw [e]
  exact getD_idx (hz.mem_iff.2 (h.find hx).1)
theorem Fine.perm (h : Fine Z L) (hz : Z'.Perm Z) (hl : L'.Perm L) : Fine Z' L' := by
  have hnm : ∀ y, y ∈ nm L' ↔ y ∈ nm L := fun y => (hl.map Prod.fst).mem_iff
  refine ⟨hz.nodup_iff.2 h.zn, (hl.map Prod.fst).nodup_iff.2 h.ln, fun x hx q => h.dis x ((hnm x).1 hx) (hz.mem_iff.1 q), fun x hx => h.zok x (hz.mem_iff.1 hx), fun x hx => h.lok x ((hnm x).1 hx), fun p hp => ?_, fun x hx => ?_⟩
  · rcases h.tg p (hl.mem_iff.1 hp) with q | q
    · exact .inl (hz.mem_iff.2 q)
    · exact .inr ((hnm _).2 q)
  · rw [h.perm_find hz hl (.inr ((hnm x).1 hx))]
    exact show (0 : Int) ≠ 11 by decide
theorem flat_eq (Z : List (List UInt8)) (L : List (List UInt8 × List UInt8)) : flatL Z L = L.map fun p => (p.1, endN Z L p.1) := rfl
theorem flat_nm (Z : List (List UInt8)) (L : List (List UInt8 × List UInt8)) : nm (flatL Z L) = nm L := by
  unfold nm flatL
  rw [List.map_map]
  rfl
theorem Fine.flat_tgt (h : Fine Z L) {x : List UInt8} (hx : x ∈ nm L) : Lk.tgt (flatL Z L) x = endN Z L x := by
  obtain ⟨p, hp, rfl⟩ := nm_mem hx
  have hm : (p.1, endN Z L p.1) ∈ flatL Z L := List.mem_map.2 ⟨p, hp, rfl⟩
  exact tgt_nodup (by rw [flat_nm]; exact h.ln) hm
theorem Fine.flat_find (h : Fine Z L) {x : List UInt8} (hx : x ∈ Z ∨ x ∈ nm L) : findL Z (flatL Z L) x = findL Z L x := by
  by_cases hz : x ∈ Z
  · unfold findL findG
    rw [if_pos hz, if_pos hz]
  · have hm := hx.resolve_left hz
    obtain ⟨h1, h2⟩ := h.find hx
    rw [h2]
    have hl : 0 < L.length := by
      obtain ⟨p, hp, _⟩ := nm_mem hm
      exact List.length_pos_of_mem hp
    unfold findL
    rw [flatL_len, findG, if_neg hz, if_pos (by rw [flat_nm]; exact hm), h.flat_tgt hm]
    obtain ⟨k, hk⟩ : ∃ k, L.length = k + 1 := ⟨L.length - 1, by omega⟩
    rw [hk, findG, if_pos h1]
theorem Fine.flat_end (h : Fine Z L) {x : List UInt8} (hx : x ∈ Z ∨ x ∈ nm L) : endN Z (flatL Z L) x = endN Z L x := by
  unfold endN
  rw [h.flat_find hx]
theorem Fine.flat (h : Fine Z L) : Fine Z (flatL Z L) := by
  refine ⟨h.zn, by rw [flat_nm]; exact h.ln, by rw [flat_nm]; exact h.dis, h.zok, by rw [flat_nm]; exact h.lok, fun p hp => ?_, fun x hx => ?_⟩
  · obtain ⟨q, hq, rfl⟩ := List.mem_map.1 hp
    exact .inl (h.find (.inr (List.mem_map.2 ⟨q, hq, rfl⟩))).1
  · rw [flat_nm] at hx
    rw [h.flat_find (.inr hx)]
    exact h.ends x hx
/-- links that lead to zones stay as they are -/
theorem Fine.flat_flat (h : Fine Z L) : flatL Z (flatL Z L) = flatL Z L := by
  rw [flat_eq Z (flatL Z L), flat_eq Z L, List.map_map]
  refine List.map_congr_left fun p hp => ?_
  show (p.1, endN Z (L.map fun p => (p.1, endN Z L p.1)) p.1) = _
  rw [← flat_eq, h.flat_end (.inr (List.mem_map.2 ⟨p, hp, rfl⟩))]
/-- flattened and sorted, or sorted and flattened -/
theorem Fine.sort_flat (h : Fine Z L) (hz : Z'.Perm Z) (hl : Stb (rkN L) L L') : Stb (rkN (flatL Z L)) (flatL Z L) (flatL Z' L') := by
  have hp : L'.Perm L := stb_to_perm hl
  have e : flatL Z' L' = L'.map fun p => (p.1, endN Z L p.1) := by
    rw [flat_eq]
    refine List.map_congr_left fun p hp' => ?_
    rw [h.perm_end hz hp (.inr (List.mem_map.2 ⟨p, hp.mem_iff.1 hp', rfl⟩))]
  rw [e]
  exact stb_map (fun p : List UInt8 × List UInt8 => (p.1, endN Z L p.1)) hl (fun x _ => rkN_names (flat_nm Z L) rfl)
theorem names_perm (hz : Z'.Perm Z) (hl : (nm L').Perm (nm L)) : namesL Z' L' = namesL Z L :=
  incr_unique (names_incr _ _) (names_incr _ _) fun x => by
    rw [names_mem, names_mem, hz.mem_iff, hl.mem_iff]
end
end Go.Proofs.YtnffecoohkanhaaDoor.Px
namespace Go.Proofs.YtnffecoohkanhaaDoor.Px
open Lk Ld St

/-- the names of zones and links of a draft of chapter 23 -/
def aName (j : Nat) : List UInt8 := 65 :: 114 :: 101 :: 97 :: 47 :: 90 :: Lib.itoa (j : Int)
def oName (j : Nat) : List UInt8 := 79 :: 108 :: 100 :: 47 :: 76 :: Lib.itoa (j : Int)
def t23 (n b i : Nat) : List UInt8 := if n ≤ b % (n + i) then oName (b % (n + i) - n) else aName (b % n)
def L23 (n m : Nat) (Ln : List Nat) : List (List UInt8 × List UInt8) := (List.range m).map fun i => (oName i, t23 n (Ln.getD i 0) i)
def Z23 (n : Nat) : List (List UInt8) := (List.range n).map aName
theorem aName_ok : ((List.range 3).all fun j => zoneOk (aName j)) = true := by kernel_rfl
theorem oName_ok : ((List.range 4).all fun j => zoneOk (oName j)) = true := by kernel_rfl
theorem aName_inj : ((List.range 3).all fun i => (List.range 3).all fun j => decide (aName i = aName j → i = j)) = true := by kernel_rfl
theorem oName_inj : ((List.range 4).all fun i => (List.range 4).all fun j => decide (oName i = oName j → i = j)) = true := by kernel_rfl
theorem aOk {j : Nat} (h : j < 3) : zoneOk (aName j) = true := List.all_eq_true.1 aName_ok j (List.mem_range.2 h)
theorem oOk {j : Nat} (h : j < 4) : zoneOk (oName j) = true := List.all_eq_true.1 oName_ok j (List.mem_range.2 h)
theorem aInj {i j : Nat} (hi : i < 3) (hj : j < 3) (h : aName i = aName j) : i = j := by
  have := List.all_eq_true.1 (List.all_eq_true.1 aName_inj i (List.mem_range.2 hi)) j (List.mem_range.2 hj)
  exact (of_decide_eq_true this) h
theorem oInj {i j : Nat} (hi : i < 4) (hj : j < 4) (h : oName i = oName j) : i = j := by
  have := List.all_eq_true.1 (List.all_eq_true.1 oName_inj i (List.mem_range.2 hi)) j (List.mem_range.2 hj)
  exact (of_decide_eq_true this) h
theorem head_ne {a b : UInt8} {x y : List UInt8} (h : a ≠ b) : a :: x ≠ b :: y := fun e => h (List.cons.inj e).1
theorem a_ne_o (i j : Nat) : aName i ≠ oName j := head_ne (by decide)
theorem a_ne_z (i j : Nat) : aName i ≠ zName j := head_ne (by decide)
theorem a_ne_l (i j : Nat) : aName i ≠ lName j := head_ne (by decide)
theorem o_ne_z (i j : Nat) : oName i ≠ zName j := head_ne (by decide)
theorem o_ne_l (i j : Nat) : oName i ≠ lName j := head_ne (by decide)
theorem Z23_mem {n : Nat} {x : List UInt8} : x ∈ Z23 n ↔ ∃ j, j < n ∧ x = aName j := by
  unfold Z23
  rw [List.mem_map]
  constructor
  · rintro ⟨i, hi, rfl⟩
    exact ⟨i, List.mem_range.1 hi, rfl⟩
  · rintro ⟨j, hj, rfl⟩
    exact ⟨j, List.mem_range.2 hj, rfl⟩
theorem nm23 (n m : Nat) (Ln : List Nat) : nm (L23 n m Ln) = (List.range m).map oName := by
  unfold nm L23
  rw [List.map_map]
  rfl
theorem nm23_mem {n m : Nat} {Ln : List Nat} {x : List UInt8} : x ∈ nm (L23 n m Ln) ↔ ∃ i, i < m ∧ x = oName i := by
  rw [nm23, List.mem_map]
  constructor
  · rintro ⟨i, hi, rfl⟩; exact ⟨i, List.mem_range.1 hi, rfl⟩
  · rintro ⟨i, hi, rfl⟩; exact ⟨i, List.mem_range.2 hi, rfl⟩
/-- links whose targets are zones, or links of a lower rank, end -/
theorem ends_rank {Z : List (List UInt8)} {L : List (List UInt8 × List UInt8)} (hn : (nm L).Nodup) (r : List UInt8 → Nat) (h : ∀ p ∈ L, p.2 ∈ Z ∨ (p.2 ∈ nm L ∧ r p.2 < r p.1)) :
    ∀ (f : Nat) (x : List UInt8), x ∈ nm L → r x + 2 ≤ f → (findG Z L f x).2 = 0
  | 0, _, _, hf => by omega
  | f + 1, x, hx, hf => by
    unfold findG
    by_cases hz : x ∈ Z
    · rw [if_pos hz]
    · rw [if_neg hz, if_pos hx]
      obtain ⟨p, hp, rfl⟩ := nm_mem hx
      rw [tgt_nodup hn hp]
      rcases h p hp with q | ⟨q, hr⟩
      · obtain ⟨g, rfl⟩ : ∃ g, f = g + 1 := ⟨f - 1, by omega⟩
        unfold findG
        rw [if_pos q]
      · exact ends_rank hn r h f p.2 q (by omega)
section
variable {n m n' m' t k : Nat} {Ln To : List Nat}
/-- the rank of a link's name: its number -/
def rk23 (m m' : Nat) (x : List UInt8) : Nat := if x ∈ (List.range m).map oName then ((List.range m).map oName).idxOf x else ((List.range m').map lName).idxOf x
theorem o_nodup (hm : m ≤ 4) : ((List.range m).map oName).Nodup := by
  refine List.pairwise_map.2 (List.nodup_range.imp_of_mem fun {i j} hi hj hne e => hne ?_)
  have h1 := List.mem_range.1 hi
  have h2 := List.mem_range.1 hj
  exact oInj (by omega) (by omega) e
theorem rk_o (hm : m ≤ 4) {i : Nat} (hi : i < m) : rk23 m m' (oName i) = i := by
  unfold rk23
  rw [if_pos (List.mem_map.2 ⟨i, List.mem_range.2 hi, rfl⟩)]
  exact idx_nodup (o_nodup hm) (by rw [List.getElem?_map, List.getElem?_range hi]; rfl)
theorem rk_l (hm : m' ≤ 12) {i : Nat} (hi : i < m') : rk23 m m' (lName i) = i := by
  unfold rk23
  rw [if_neg (fun h => by obtain ⟨j, _, e⟩ := List.mem_map.1 h; exact o_ne_l j i e)]
  exact idx_nodup (lk_nodup hm) (by rw [List.getElem?_map, List.getElem?_range hi]; rfl)
/-- the two sources together are without faults -/
theorem fine23 (hn0 : 0 < n) (hn : n ≤ 3) (hm : m ≤ 4) (hn0' : 0 < n') (hn' : n' ≤ 6) (hm' : m' ≤ 12) : Fine (Z23 n ++ zN n' t) (L23 n m Ln ++ rot k (lkN n' m' To)) := by
  have hnm : nm (L23 n m Ln ++ rot k (lkN n' m' To)) = nm (L23 n m Ln) ++ nm (rot k (lkN n' m' To)) := by unfold nm; rw [List.map_append]
  have hmem : ∀ x, x ∈ nm (L23 n m Ln ++ rot k (lkN n' m' To)) ↔ (∃ i, i < m ∧ x = oName i) ∨ ∃ i, i < m' ∧ x = lName i := fun x => by
    rw [hnm, List.mem_append, nm23_mem, made_nm]
  have hzm : ∀ x, x ∈ Z23 n ++ zN n' t ↔ (∃ i, i < n ∧ x = aName i) ∨ ∃ i, i < n' ∧ x = zName i := fun x => by
    rw [List.mem_append, Z23_mem, zN_mem]
  have hln : (nm (L23 n m Ln ++ rot k (lkN n' m' To))).Nodup := by
    rw [hnm]
    refine List.nodup_append.2 ⟨by rw [nm23]; exact o_nodup hm, made_nodup hm', fun x hx y hy e => ?_⟩
    obtain ⟨i, _, rfl⟩ := nm23_mem.1 hx
    obtain ⟨j, _, rfl⟩ := made_nm.1 hy
    exact o_ne_l _ _ e
  have htg : ∀ p ∈ L23 n m Ln ++ rot k (lkN n' m' To), p.2 ∈ Z23 n ++ zN n' t ∨ (p.2 ∈ nm (L23 n m Ln ++ rot k (lkN n' m' To)) ∧ rk23 m m' p.2 < rk23 m m' p.1) := by
    intro p hp
    rcases List.mem_append.1 hp with hp | hp
    · obtain ⟨i, hi, rfl⟩ := List.mem_map.1 hp
      have hi := List.mem_range.1 hi
      dsimp only
      unfold t23
      have hlt := Nat.mod_lt (Ln.getD i 0) (show 0 < n + i by omega)
      by_cases hb : n ≤ Ln.getD i 0 % (n + i)
      · rw [if_pos hb]
        refine .inr ⟨(hmem _).2 (.inl ⟨_, by omega, rfl⟩), ?_⟩
        rw [rk_o hm hi, rk_o hm (by omega)]
        omega
      · rw [if_neg hb]
        exact .inl ((hzm _).2 (.inl ⟨_, Nat.mod_lt _ hn0, rfl⟩))
    · obtain ⟨i, hi, rfl⟩ := List.mem_map.1 ((rot_mem _ _ _).1 hp)
      have hi := List.mem_range.1 hi
      dsimp only
      unfold tOf
      have hlt := Nat.mod_lt (bOf To i) (show 0 < n' + i by omega)
      by_cases hb : n' ≤ bOf To i % (n' + i)
      · rw [if_pos hb]
        refine .inr ⟨(hmem _).2 (.inr ⟨_, by omega, rfl⟩), ?_⟩
        rw [rk_l hm' hi, rk_l hm' (by omega)]
        omega
      · rw [if_neg hb]
        exact .inl ((hzm _).2 (.inr ⟨_, Nat.mod_lt _ hn0', rfl⟩))
  refine ⟨?_, hln, fun x hx hz => ?_, fun x hx => ?_, fun x hx => ?_, fun p hp => ?_, fun x hx => ?_⟩
  · refine List.nodup_append.2 ⟨?_, zN_nodup hn', fun x hx y hy e => ?_⟩
    · refine List.pairwise_map.2 (List.nodup_range.imp_of_mem fun {i j} hi hj hne e => hne ?_)
      have h1 := List.mem_range.1 hi
      have h2 := List.mem_range.1 hj
      exact aInj (by omega) (by omega) e
    · obtain ⟨i, _, rfl⟩ := Z23_mem.1 hx
      obtain ⟨j, _, rfl⟩ := zN_mem.1 hy
      exact a_ne_z _ _ e
  · rcases (hmem _).1 hx with ⟨i, _, rfl⟩ | ⟨i, _, rfl⟩ <;> rcases (hzm _).1 hz with ⟨j, _, e⟩ | ⟨j, _, e⟩
    · exact a_ne_o _ _ e.symm
    · exact o_ne_z _ _ e
    · exact a_ne_l _ _ e.symm
    · exact z_ne_l _ _ e.symm
  · rcases (hzm _).1 hx with ⟨i, _, rfl⟩ | ⟨i, _, rfl⟩
    · exact aOk (by omega)
    · exact zOk (by omega)
  · rcases (hmem _).1 hx with ⟨i, _, rfl⟩ | ⟨i, _, rfl⟩
    · exact oOk (by omega)
    · exact lOk (by omega)
  · rcases htg p hp with q | q
    · exact .inl q
    · exact .inr q.1
  · have hlen : (L23 n m Ln ++ rot k (lkN n' m' To)).length = m + m' := by
      rw [List.length_append, (rot_perm _ _).length_eq]
      unfold L23 lkN
      rw [List.length_map, List.length_map, List.length_range, List.length_range]
    have h0 : (findG (Z23 n ++ zN n' t) (L23 n m Ln ++ rot k (lkN n' m' To)) ((L23 n m Ln ++ rot k (lkN n' m' To)).length + 1) x).2 = 0 := by
      refine ends_rank hln (rk23 m m') htg _ x hx ?_
      rw [hlen]
      rcases (hmem _).1 hx with ⟨i, hi, rfl⟩ | ⟨i, hi, rfl⟩
      · rw [rk_o hm hi]; omega
      · rw [rk_l hm' hi]; omega
    unfold findL
    rw [h0]
    decide
end
end Go.Proofs.YtnffecoohkanhaaDoor.Px
