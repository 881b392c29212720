/- Plain laws for NameParts: names that are put together of names, with a slash between two of them. -/
import Derived.Test.YticmkjcaekhgpaaDoorLinkF
import Derived.Lib.Split
import Derived.Test.YticmkjcaekhgpaaDoorShelf
namespace Go.Proofs.YticmkjcaekhgpaaDoor
open Go.RowKit

theorem splitB_join (c : UInt8) (l r : List UInt8) : splitB c (l ++ c :: r) = splitB c l ++ splitB c r := by
  induction l with
  | nil => simp [splitB]
  | cons b t ih =>
    by_cases h : b == c
    · simp only [List.cons_append, splitB, h, if_pos, ih]
    · have h' : (b == c) = false := by simpa using h
      simp only [List.cons_append, splitB, h', ih]
      cases hs : splitB c t with
      | nil => exact absurd hs (splitB_ne c t)
      | cons p q => simp
theorem zoneOk_join (l r : List UInt8) (hl : zoneOk l = true) (hr : zoneOk r = true) : zoneOk (l ++ [47] ++ r) = decide (l.length + r.length ≤ 59) := by
  unfold zoneOk at *
  simp only [Bool.and_eq_true] at hl hr
  rw [show l ++ [47] ++ r = l ++ 47 :: r by simp, splitB_join, List.all_append, hl.2, hr.2]
  simp only [List.length_append, List.length_cons, Bool.and_self, Bool.and_true]
  rw [Bool.eq_iff_iff]
  simp; omega
theorem partOk_nil : partOk [] = false := by kernel_rfl
theorem split_nil : splitB 47 [] = [[]] := rfl
theorem zoneOk_end (l : List UInt8) : zoneOk (l ++ [47]) = false := by
  unfold zoneOk
  rw [show l ++ [47] = l ++ 47 :: [] by simp, splitB_join, split_nil, List.all_append]
  simp [partOk_nil]
theorem zoneOk_begin (l : List UInt8) : zoneOk (47 :: l) = false := by
  unfold zoneOk
  rw [show 47 :: l = [] ++ 47 :: l by simp, splitB_join, split_nil, List.all_append]
  simp [partOk_nil]
theorem zoneOk_two (l r : List UInt8) : zoneOk (l ++ [47, 47] ++ r) = false := by
  unfold zoneOk
  rw [show l ++ [47, 47] ++ r = l ++ 47 :: ([] ++ 47 :: r) by simp, splitB_join, splitB_join, split_nil, List.all_append, List.all_append]
  simp [partOk_nil]
theorem zone_piece {l p : List UInt8} (h : zoneOk l = true) (hp : p ∈ splitB 47 l) : zoneOk p = true := by
  unfold zoneOk at h
  simp only [Bool.and_eq_true, List.all_eq_true] at h
  have hk := h.2 p hp
  unfold zoneOk
  rw [splitB_one 47 p (partOk_no47 hk)]
  have : p.length ≤ 14 := by
    unfold partOk ofOk at hk
    simp at hk
    omega
  simp [hk]; omega
def xs (k : Nat) : List UInt8 := List.replicate k 120
theorem xs_let (k : Nat) : ∀ c ∈ xs k, letB c.toNat = true := by
  intro c hc
  rw [xs, List.mem_replicate] at hc
  rw [hc.2]; decide
theorem xs_ok (k : Nat) : zoneOk (xs k) = (decide (1 ≤ k) && decide (k ≤ 14)) := by
  rw [zone_letters (xs_let k)]; simp [xs]
theorem xs_axs (k : Nat) (hk : k < 20) : zoneOk (65 :: 47 :: xs k) = zoneOk (xs k) := by
  have e1 : ∀ l : List UInt8, (∀ c ∈ l, letB c.toNat = true) → l.length < 20 → zoneOk (65 :: 47 :: l) = zoneOk l := by
    intro l hl hn
    have hs : splitB 47 l = [l] := splitB_one 47 l (fun b hb e => (let_range (hl b hb)).2.2.1 (by rw [e]; rfl))
    unfold zoneOk
    rw [show 65 :: 47 :: l = [65] ++ 47 :: l by rfl, splitB_join, hs, show splitB 47 [65] = [[65]] by kernel_rfl]
    have : partOk [65] = true := by kernel_rfl
    simp only [List.cons_append, List.nil_append, List.all_cons, List.all_nil, this, Bool.true_and, Bool.and_true, List.length_cons]
    congr 1
    rw [Bool.eq_iff_iff]
    simp; omega
  exact e1 _ (xs_let k) (by simp [xs]; omega)
def abcs : Nat → List UInt8
  | 0 => [97, 98, 99, 100]
  | k + 1 => [97, 98, 99] ++ 47 :: abcs k
theorem abcs_len (k : Nat) : (abcs k).length = 4 * k + 4 := by
  induction k with
  | zero => rfl
  | succ k ih => simp only [abcs, List.length_append, List.length_cons, ih, List.length_nil]; omega
theorem abcs_parts (k : Nat) : (splitB 47 (abcs k)).all partOk = true := by
  induction k with
  | zero => kernel_rfl
  | succ k ih =>
    rw [abcs, splitB_join, List.all_append, ih, Bool.and_true]
    kernel_rfl
theorem abcs_ok (k : Nat) : zoneOk (abcs k) = decide (4 * k + 4 ≤ 60) := by
  unfold zoneOk
  rw [abcs_parts, abcs_len, Bool.and_true]
theorem abcs_rep (k : Nat) : Lib.repeatL [97, 98, 99, 47] k ++ [97, 98, 99, 100] = abcs k := by
  induction k with
  | zero => rfl
  | succ k ih => rw [Lib.repeatL, List.append_assoc, ih]; rfl
theorem xs_rep (k : Nat) : Lib.repeatL [120] k = xs k := by
  induction k with
  | zero => rfl
  | succ k ih => rw [Lib.repeatL, ih]; rfl
end Go.Proofs.YticmkjcaekhgpaaDoor
