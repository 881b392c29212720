/- strings.Split by one byte, plain and called. -/
import Derived.Lib.Bytealg
import Derived.Lib.Strings
import Derived.Lib.CountLaws
import Derived.Lib.SplitLaws
import Derived.Lib.IndexBytes
import Derived.Test.YtkfgonbopgdmgaaDoorPoE
import Derived.Test.YtkfgonbopgdmgaaDoorRfA
namespace Go.Proofs.YtkfgonbopgdmgaaDoor.Tb
open Px

/-- the parts of a text between the bytes c -/
def splitL (c : UInt8) : List UInt8 → List (List UInt8)
  | [] => [[]]
  | b :: r => if b == c then [] :: splitL c r else match splitL c r with
    | [] => [[b]]
    | h :: t => (b :: h) :: t
theorem splitL_ne (c : UInt8) (l : List UInt8) : splitL c l ≠ [] := by
  cases l with
  | nil => simp [splitL]
  | cons b r =>
    simp only [splitL]
    split
    · simp
    · split <;> simp
theorem splitL_none (c : UInt8) (l : List UInt8) (h : Lib.indexByte l c < 0) : splitL c l = [l] := by
  induction l with
  | nil => rfl
  | cons b r ih =>
    simp only [Lib.indexByte] at h
    by_cases e : (b == c) = true
    · simp [e] at h
    · have e' : (b == c) = false := by simpa using e
      rw [e', if_neg (by simp)] at h
      by_cases e2 : (Lib.indexByte r c == -1) = true
      · have : Lib.indexByte r c < 0 := by have := eq_of_beq e2; omega
        simp only [splitL, e', ih this]
        rfl
      · rw [if_neg e2] at h
        have := Lib.indexByte_ge r c
        omega
theorem splitL_some (c : UInt8) (l : List UInt8) (i : Nat) (h : Lib.indexByte l c = i) : i < l.length ∧ splitL c l = l.take i :: splitL c (l.drop (i + 1)) := by
  induction l generalizing i with
  | nil => simp [Lib.indexByte] at h
  | cons b r ih =>
    simp only [Lib.indexByte] at h
    by_cases e : (b == c) = true
    · rw [if_pos e] at h
      obtain rfl : i = 0 := by omega
      simp [splitL, e]
    · have e' : (b == c) = false := by simpa using e
      rw [e', if_neg (by simp)] at h
      by_cases e2 : (Lib.indexByte r c == -1) = true
      · rw [if_pos e2] at h; omega
      · rw [if_neg e2] at h
        have hg := Lib.indexByte_ge r c
        have hne : Lib.indexByte r c ≠ -1 := by simpa using e2
        obtain ⟨j, hj⟩ : ∃ j : Nat, Lib.indexByte r c = j := ⟨(Lib.indexByte r c).toNat, by omega⟩
        obtain rfl : i = j + 1 := by omega
        obtain ⟨h1, h2⟩ := ih j hj
        refine ⟨by simp; omega, ?_⟩
        simp only [splitL, e', h2]
        simp
theorem splitL_join (c : UInt8) (l r : List UInt8) : splitL c (l ++ c :: r) = splitL c l ++ splitL c r := by
  induction l with
  | nil => simp [splitL]
  | cons b t ih =>
    by_cases h : b == c
    · simp only [List.cons_append, splitL, h, if_pos, ih]
    · have h' : (b == c) = false := by simpa using h
      simp only [List.cons_append, splitL, h', ih]
      cases hs : splitL c t with
      | nil => exact absurd hs (splitL_ne c t)
      | cons p q => simp
theorem splitL_no (c : UInt8) (l : List UInt8) (h : c ∉ l) : splitL c l = [l] := by
  induction l with
  | nil => rfl
  | cons b r ih =>
    have h' : (b == c) = false := by
      have : b ≠ c := fun e => h (by rw [e]; exact List.mem_cons_self ..)
      simpa using this
    simp only [splitL, h', ih (fun hx => h (List.mem_cons_of_mem _ hx))]
    rfl
end Go.Proofs.YtkfgonbopgdmgaaDoor.Tb
namespace Go.Proofs.YtkfgonbopgdmgaaDoor.Px
open Go.RowKit
open Tb

theorem ext_list' (s : ByteArray) (a b : Nat) : (s.extract a b).data.toList = (s.data.toList.drop a).take (b - a) := by
  rw [ByteArray.data_extract, Array.toList_extract, List.extract_eq_take_drop]
/-- strings.Split by one byte, as lists -/
theorem split_lists (c : UInt8) : ∀ (k : Nat) (s : ByteArray), Lib.countB s ⟨#[c]⟩ = k → (Lib.splitB ⟨#[c]⟩ 0 k s).map (·.data.toList) = splitL c s.data.toList := by
  intro k
  have h1 : 0 < (⟨#[c]⟩ : ByteArray).size := Nat.zero_lt_one
  induction k with
  | zero =>
    intro s h
    have hi : Lib.indexByte s.data.toList c = -1 := by
      have hg := Lib.indexByte_ge s.data.toList c
      rcases (show Lib.indexByte s.data.toList c < 0 ∨ 0 ≤ Lib.indexByte s.data.toList c by omega) with h0 | h0
      · omega
      · obtain ⟨i, hi⟩ : ∃ i : Nat, Lib.indexByte s.data.toList c = i := ⟨_, (Int.toNat_of_nonneg h0).symm⟩
        have := Lib.countB_hit s ⟨#[c]⟩ i h1 (by rw [← hi]; exact Lib.index_one _ _)
        omega
    rw [Lib.splitB_zero, splitL_none c _ (by omega)]
    rfl
  | succ k ih =>
    intro s h
    have hg := Lib.indexByte_ge s.data.toList c
    rcases (show Lib.indexByte s.data.toList c < 0 ∨ 0 ≤ Lib.indexByte s.data.toList c by omega) with h0 | h0
    · have hm : Lib.indexB s ⟨#[c]⟩ = -1 := by
        have : Lib.indexB s ⟨#[c]⟩ = Lib.indexByte s.data.toList c := Lib.index_one _ _
        omega
      rw [Lib.countB_miss _ _ hm] at h
      omega
    · obtain ⟨i, hi⟩ : ∃ i : Nat, Lib.indexByte s.data.toList c = i := ⟨_, (Int.toNat_of_nonneg h0).symm⟩
      have hx : Lib.indexB s ⟨#[c]⟩ = i := by rw [← hi]; exact Lib.index_one _ _
      have hc := Lib.countB_hit s ⟨#[c]⟩ i h1 hx
      obtain ⟨_, hs⟩ := splitL_some c _ i hi
      rw [Lib.splitB_hit _ _ _ _ _ hx, List.map_cons, ih _ (by omega), hs]
      rw [ext_list', ext_list']
      simp only [Nat.add_zero, Nat.sub_zero, List.drop_zero]
      congr 1
      congr 1
      rw [show (⟨#[c]⟩ : ByteArray).size = 1 from rfl]
      rw [List.take_of_length_le]
      rw [List.length_drop, show s.data.toList.length = s.size from Array.length_toList]
      omega
theorem split_bytes (c : UInt8) (s : ByteArray) : Lib.splitB ⟨#[c]⟩ 0 (Lib.countB s ⟨#[c]⟩) s = (splitL c s.data.toList).map bs := by
  rw [← split_lists c _ s rfl, List.map_map]
  conv => lhs; rw [← List.map_id (Lib.splitB ⟨#[c]⟩ 0 (Lib.countB s ⟨#[c]⟩) s)]
  apply List.map_congr_left
  intro x _
  rfl
/-- strings.Split by a byte: a slice of its own -/
theorem split_any (bd : List (List UInt8)) (t : List UInt8) (c : UInt8) (h : splitL c t = bd) (ht : t.length < 4294967281) (L : List (Nat × Obj)) (R : List Rw) (W w : World) (hk : Kp L R W w) (hm : ∃ m, w.cell? ⟨0, 0, none⟩ = some (.int .i64 m)) :
    Calls Tryd.prog 28 #[.string (bs t), .string ⟨#[c]⟩] w fun e w' => ∃ g, e = .returned (.slice (some ⟨g, 0, none⟩) bd.length bd.length) ∧ Kp L (⟨.slice (some ⟨g, 0, none⟩) bd.length bd.length, 9, 1, bd.length, bd.map (fun l => .string (bs l))⟩ :: R) W w' := by
  obtain ⟨m, hm⟩ := hm
  have hsz : (bs t).size = t.length := rfl
  refine (Tryd.strings_Split (bs t) ⟨#[c]⟩ m w (by rw [hsz]; exact ht) hm (Nat.le_refl 1)).mono ?_
  rintro e V ⟨rfl, rfl⟩
  have h1 : 0 < (⟨#[c]⟩ : ByteArray).size := Nat.zero_lt_one
  have hb : Lib.splitB ⟨#[c]⟩ 0 (Lib.countB (bs t) ⟨#[c]⟩) (bs t) = bd.map bs := by rw [split_bytes]; show (splitL c t).map bs = _; rw [h]
  have hlen : Lib.countB (bs t) ⟨#[c]⟩ + 1 = bd.length := by
    have hn := Lib.splitB_all ⟨#[c]⟩ h1 0 _ (bs t) rfl
    rw [hb] at hn
    simpa using hn.symm
  have hle := Lib.countB_le ⟨#[c]⟩ h1 (bs t).size (bs t) (Nat.le_refl _)
  rw [hb, hlen, List.map_map]
  refine ⟨w.heap.size, rfl, ?_⟩
  have hk2 := (hk.alloc (.cells (bd.map (Value.string ∘ bs)).toArray 9)).own_block 1 bd.length bd.length (Nat.le_refl _) (by unfold maxLen; omega) (by simp)
  rw [List.toList_toArray, List.take_of_length_le (by simp)] at hk2
  exact hk2
end Go.Proofs.YtkfgonbopgdmgaaDoor.Px
