/- Parts of a text between bytes, plain. -/
import Derived.Lib.Bytealg
namespace Go.Proofs.YtdeompnaojiajaaDoor

/-- the parts of a text between the bytes c -/
def splitB (c : UInt8) : List UInt8 → List (List UInt8)
  | [] => [[]]
  | b :: r => if b == c then [] :: splitB c r else match splitB c r with
    | [] => [[b]]
    | h :: t => (b :: h) :: t
theorem splitB_ne (c : UInt8) (l : List UInt8) : splitB c l ≠ [] := by
  cases l with
  | nil => simp [splitB]
  | cons b r =>
    simp only [splitB]
    split
    · simp
    · split <;> simp
theorem splitB_none (c : UInt8) (l : List UInt8) (h : Lib.indexByte l c < 0) : splitB c l = [l] := by
  induction l with
  | nil => rfl
  | cons b r ih =>
    simp only [Lib.indexByte] at h
    by_cases e : (b == c) = true
    · simp [e] at h
    · have e' : (b == c) = false := by simpa using e
      rw [e', if_neg (by simp)] at h
      by_cases e2 : (Lib.indexByte r c == -1) = true
      · have : Lib.indexByte r c < 0 := by have := eq_of_beq e2; omega
        simp only [splitB, e', ih this]
        rfl
      · rw [if_neg e2] at h
        have := Lib.indexByte_ge r c
        omega
theorem splitB_some (c : UInt8) (l : List UInt8) (i : Nat) (h : Lib.indexByte l c = i) : i < l.length ∧ splitB c l = l.take i :: splitB c (l.drop (i + 1)) := by
  induction l generalizing i with
  | nil => simp [Lib.indexByte] at h
  | cons b r ih =>
    simp only [Lib.indexByte] at h
    by_cases e : (b == c) = true
    · rw [if_pos e] at h
      obtain rfl : i = 0 := by omega
      simp [splitB, e]
    · have e' : (b == c) = false := by simpa using e
      rw [e', if_neg (by simp)] at h
      by_cases e2 : (Lib.indexByte r c == -1) = true
      · rw [if_pos e2] at h; omega
      · rw [if_neg e2] at h
        have hg := Lib.indexByte_ge r c
        have hne : Lib.indexByte r c ≠ -1 := by simpa using e2
        obtain ⟨j, hj⟩ : ∃ j : Nat, Lib.indexByte r c = j := ⟨(Lib.indexByte r c).toNat, by omega⟩
        obtain rfl : i = j + 1 := by omega
        obtain ⟨h1, h2⟩ := ih j hj
        refine ⟨by simp; omega, ?_⟩
        simp only [splitB, e', h2]
        simp
end Go.Proofs.YtdeompnaojiajaaDoor
