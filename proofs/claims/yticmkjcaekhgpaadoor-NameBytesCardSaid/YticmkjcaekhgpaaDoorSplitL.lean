/- strings.Split by a slash gives the lists that splitB gives. -/
import Derived.Test.YticmkjcaekhgpaaDoorRefs
import Derived.Lib.CountLaws
import Derived.Lib.SplitLaws
import Derived.Lib.IndexBytes
namespace Go.Proofs.YticmkjcaekhgpaaDoor
open Go.RowKit

/-- strings.Split by a slash, as lists -/
theorem split_lists : ∀ (k : Nat) (s : ByteArray), Lib.countB s ⟨#[47]⟩ = k → (Lib.splitB ⟨#[47]⟩ 0 k s).map (·.data.toList) = splitB 47 s.data.toList := by
  intro k
  induction k with
  | zero =>
    intro s h
    have hi : Lib.indexByte s.data.toList 47 = -1 := by
      have hg := Lib.indexByte_ge s.data.toList 47
      rcases (show Lib.indexByte s.data.toList 47 < 0 ∨ 0 ≤ Lib.indexByte s.data.toList 47 by omega) with h0 | h0
      · omega
      · obtain ⟨i, hi⟩ : ∃ i : Nat, Lib.indexByte s.data.toList 47 = i := ⟨_, (Int.toNat_of_nonneg h0).symm⟩
        have := Lib.countB_hit s ⟨#[47]⟩ i (by decide) (by rw [← hi]; exact Lib.index_one _ _)
        omega
    rw [Lib.splitB_zero, splitB_none 47 _ (by omega)]
    rfl
  | succ k ih =>
    intro s h
    have hg := Lib.indexByte_ge s.data.toList 47
    rcases (show Lib.indexByte s.data.toList 47 < 0 ∨ 0 ≤ Lib.indexByte s.data.toList 47 by omega) with h0 | h0
    · have hm : Lib.indexB s ⟨#[47]⟩ = -1 := by
        have : Lib.indexB s ⟨#[47]⟩ = Lib.indexByte s.data.toList 47 := Lib.index_one _ _
        omega
      rw [Lib.countB_miss _ _ hm] at h
      omega
    · obtain ⟨i, hi⟩ : ∃ i : Nat, Lib.indexByte s.data.toList 47 = i := ⟨_, (Int.toNat_of_nonneg h0).symm⟩
      have hx : Lib.indexB s ⟨#[47]⟩ = i := by rw [← hi]; exact Lib.index_one _ _
      have hc := Lib.countB_hit s ⟨#[47]⟩ i (by decide) hx
      obtain ⟨_, hs⟩ := splitB_some 47 _ i hi
      rw [Lib.splitB_hit _ _ _ _ _ hx, List.map_cons, ih _ (by omega), hs]
      rw [ext_list, ext_list]
      simp only [Nat.add_zero, Nat.sub_zero, List.drop_zero]
      congr 1
      congr 1
      rw [show (⟨#[47]⟩ : ByteArray).size = 1 from rfl]
      rw [List.take_of_length_le]
      rw [List.length_drop, len_eq]
      omega
end Go.Proofs.YticmkjcaekhgpaaDoor
