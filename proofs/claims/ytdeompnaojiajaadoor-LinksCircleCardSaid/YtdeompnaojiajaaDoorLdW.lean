/- The law LinksWrong of chapter 15, walked: what is wrong is found where it is. -/
import Derived.Test.YtdeompnaojiajaaDoorLdO
import Derived.Test.YtdeompnaojiajaaDoorLdR
namespace Go.Proofs.YtdeompnaojiajaaDoor.Px
open Go.RowKit
open Go.Maps (Keyed)
open Lk Ld

theorem z_small4 : ((List.range 6).all fun j => decide ((zName j).length ≤ 100)) = true := by kernel_rfl
theorem l_small4 : ((List.range 12).all fun j => decide ((lName j).length ≤ 100)) = true := by kernel_rfl
theorem zName_len {j : Nat} (h : j < 6) : (zName j).length ≤ 100 := of_decide_eq_true (List.all_eq_true.1 z_small4 j (List.mem_range.2 h))
theorem lName_len {j : Nat} (h : j < 12) : (lName j).length ≤ 100 := of_decide_eq_true (List.all_eq_true.1 l_small4 j (List.mem_range.2 h))
theorem z_small {n t : Nat} (hn : n ≤ 6) : ∀ x ∈ zN n t, x.length ≤ 100 := fun x hx => by
  obtain ⟨j, hj, rfl⟩ := zN_mem.1 hx
  exact zName_len (by omega)
theorem l_small {n m k : Nat} {To : List Nat} (hn0 : 0 < n) (hn : n ≤ 6) (hm : m ≤ 12) : ∀ p ∈ rot k (lkN n m To), p.1.length ≤ 100 ∧ p.2.length ≤ 100 := fun p hp => by
  obtain ⟨i, hi, rfl⟩ := List.mem_map.1 ((rot_mem _ _ _).1 hp)
  have hi := List.mem_range.1 hi
  refine ⟨lName_len (by omega), ?_⟩
  dsimp only
  unfold tOf
  have h1 := Nat.mod_lt (bOf To i) (show n + i > 0 by omega)
  have h2 := Nat.mod_lt (bOf To i) hn0
  split
  · exact lName_len (by omega)
  · exact zName_len (by omega)
theorem src_own {B nz nl : Nat} {Y : World} {zv lv : Value} {Zn : List (List UInt8)} {L : List (List UInt8 × List UInt8)} (hz : Y.ownsRow B 33 2 zv nz ((zos Zn).flatMap zcells)) (hl : Y.ownsRow B 36 2 lv nl (L.flatMap kcells))
    (ez : Zn.length = nz) (el : L.length = nl) (bz : ∀ x ∈ Zn, x.length ≤ 100) (bl : ∀ p ∈ L, p.1.length ≤ 100 ∧ p.2.length ≤ 100) : SrcV Y zv lv (zos Zn) L := by
  subst el
  refine ⟨?_, SlV.of_own hl, fun z hz => ?_, fun p hp => ?_⟩
  · have h := SlV.of_own hz
    unfold ZoV
    rw [show (zos Zn).length = nz by unfold zos; rw [List.length_map, ez]]
    exact h
  · obtain ⟨x, hx, rfl⟩ := List.mem_map.1 hz
    have := bz x hx
    unfold maxLen
    show x.length ≤ _
    omega
  · have := bl p hp
    unfold maxLen
    omega
theorem zos_set : ∀ (l : List (List UInt8)) (i : Nat) (x : List UInt8), ((zos l).flatMap zcells).set (i * 2) (.string (bs x)) = (zos (l.set i x)).flatMap zcells
  | [], _, _ => rfl
  | _ :: _, 0, _ => rfl
  | y :: r, i + 1, x => by
    have h := zos_set r i x
    show (Value.string (bs y) :: Value.slice none 0 0 :: (zos r).flatMap zcells).set ((i + 1) * 2) _ = Value.string (bs y) :: Value.slice none 0 0 :: (zos (r.set i x)).flatMap zcells
    rw [← h, show (i + 1) * 2 = i * 2 + 1 + 1 by omega]
    rfl
theorem lks_set : ∀ (l : List (List UInt8 × List UInt8)) (i : Nat) (x : List UInt8), i < l.length → (l.flatMap kcells).set (i * 2) (.string (bs x)) = (l.set i ((l.getD i ([], [])).1, x)).flatMap kcells
  | [], _, _, h => by cases h
  | _ :: _, 0, _, _ => rfl
  | y :: r, i + 1, x, h => by
    have h := lks_set r i x (Nat.lt_of_succ_lt_succ h)
    show (Value.string (bs y.2) :: Value.string (bs y.1) :: r.flatMap kcells).set ((i + 1) * 2) _ = Value.string (bs y.2) :: Value.string (bs y.1) :: (r.set i ((r.getD i ([], [])).1, x)).flatMap kcells
    rw [← h, show (i + 1) * 2 = i * 2 + 1 + 1 by omega]
    rfl
theorem zo_get {l : List (List UInt8)} {i : Nat} (h : i < l.length) : ((zos l).flatMap zcells)[i * 2]? = some (.string (bs (l.getD i []))) := by
  have e : (zos l)[i]? = some (zo1 (l.getD i [])) := by unfold zos; rw [List.getElem?_map, getD_at h]; rfl
  exact (zo_at (zos l) e).1
theorem lk_get {l : List (List UInt8 × List UInt8)} {i : Nat} (h : i < l.length) : (l.flatMap kcells)[i * 2]? = some (.string (bs (l.getD i ([], [])).2)) ∧ (l.flatMap kcells)[i * 2 + 1]? = some (.string (bs (l.getD i ([], [])).1)) := by
  have e : l[i]? = some (l.getD i ([], [])) := by rw [List.getD, List.getElem?_eq_getElem h]; rfl
  exact lk_at l e
theorem getD_mem {l : List (List UInt8)} {i : Nat} (h : i < l.length) : l.getD i [] ∈ l := List.mem_of_getElem? (getD_at h)
theorem getP_mem {l : List (List UInt8 × List UInt8)} {i : Nat} (h : i < l.length) : l.getD i ([], []) ∈ l := by
  have e : l[i]? = some (l.getD i ([], [])) := by rw [List.getD, List.getElem?_eq_getElem h]; rfl
  exact List.mem_of_getElem? e
theorem big_set {l : List (List UInt8)} {i : Nat} {x : List UInt8} (h : ∀ y ∈ l, y.length ≤ 100) (hx : x.length ≤ 100) : ∀ y ∈ l.set i x, y.length ≤ 100 := fun y hy => by
  rcases List.mem_or_eq_of_mem_set hy with hy | rfl
  · exact h y hy
  · exact hx
theorem big_snoc {l : List (List UInt8)} {x : List UInt8} (h : ∀ y ∈ l, y.length ≤ 100) (hx : x.length ≤ 100) : ∀ y ∈ l ++ [x], y.length ≤ 100 := fun y hy => by
  rcases List.mem_append.1 hy with hy | hy
  · exact h y hy
  · rw [List.mem_singleton.1 hy]; exact hx
theorem bigP_set {l : List (List UInt8 × List UInt8)} {i : Nat} {x : List UInt8 × List UInt8} (h : ∀ p ∈ l, p.1.length ≤ 100 ∧ p.2.length ≤ 100) (hx : x.1.length ≤ 100 ∧ x.2.length ≤ 100) : ∀ p ∈ l.set i x, p.1.length ≤ 100 ∧ p.2.length ≤ 100 := fun y hy => by
  rcases List.mem_or_eq_of_mem_set hy with hy | rfl
  · exact h y hy
  · exact hx
theorem bigP_snoc {l : List (List UInt8 × List UInt8)} {x : List UInt8 × List UInt8} (h : ∀ p ∈ l, p.1.length ≤ 100 ∧ p.2.length ≤ 100) (hx : x.1.length ≤ 100 ∧ x.2.length ≤ 100) : ∀ p ∈ l ++ [x], p.1.length ≤ 100 ∧ p.2.length ≤ 100 := fun y hy => by
  rcases List.mem_append.1 hy with hy | hy
  · exact h y hy
  · rw [List.mem_singleton.1 hy]; exact hx
theorem bad_cell {b : Nat} {Y : World} (h : Y.heap[b]? = some (.cells #[.string ⟨#[]⟩, .string ⟨#[47]⟩, .string ⟨#[65, 47]⟩, .string ⟨#[46, 65]⟩, .string ⟨#[45]⟩, .string ⟨#[65, 32, 66]⟩] 9 (0, 0))) {j : Nat} (hj : j < 6) : Y.cell? ⟨b, j, none⟩ = some (.string (bs (badL j))) := by
  rw [cells_at h]
  match j, hj with
  | 0, _ => rfl
  | 1, _ => rfl
  | 2, _ => rfl
  | 3, _ => rfl
  | 4, _ => rfl
  | 5, _ => rfl
end Go.Proofs.YtdeompnaojiajaaDoor.Px
