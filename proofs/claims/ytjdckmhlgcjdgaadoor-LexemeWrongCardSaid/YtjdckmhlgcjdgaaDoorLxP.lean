/- Plain laws for lines: what the document says of a text is what splitting its text at line feeds gives; no program in sight. -/
import Derived.Lib.Bytealg
import Derived.Lib.Strings
namespace Go.Proofs.YtjdckmhlgcjdgaaDoor.Lx

/-- the parts of a text between the bytes c -/
def splitB (c : UInt8) : List UInt8 → List (List UInt8)
  | [] => [[]]
  | b :: r => if b == c then [] :: splitB c r else match splitB c r with
    | [] => [[b]]
    | h :: t => (b :: h) :: t
theorem splitB_ne (c : UInt8) (l : List UInt8) : splitB c l ≠ [] := by
  cases l with
  | nil => simp [splitB]
  | cons b r =>
    simp only [splitB]
    split
    · simp
    · split <;> simp
theorem splitB_none (c : UInt8) (l : List UInt8) (h : Lib.indexByte l c < 0) : splitB c l = [l] := by
  induction l with
  | nil => rfl
  | cons b r ih =>
    simp only [Lib.indexByte] at h
    by_cases e : (b == c) = true
    · simp [e] at h
    · have e' : (b == c) = false := by simpa using e
      rw [e', if_neg (by simp)] at h
      by_cases e2 : (Lib.indexByte r c == -1) = true
      · have : Lib.indexByte r c < 0 := by have := eq_of_beq e2; omega
        simp only [splitB, e', ih this]
        rfl
      · rw [if_neg e2] at h
        have := Lib.indexByte_ge r c
        omega
theorem splitB_some (c : UInt8) (l : List UInt8) (i : Nat) (h : Lib.indexByte l c = i) : i < l.length ∧ splitB c l = l.take i :: splitB c (l.drop (i + 1)) := by
  induction l generalizing i with
  | nil => simp [Lib.indexByte] at h
  | cons b r ih =>
    simp only [Lib.indexByte] at h
    by_cases e : (b == c) = true
    · rw [if_pos e] at h
      obtain rfl : i = 0 := by omega
      simp [splitB, e]
    · have e' : (b == c) = false := by simpa using e
      rw [e', if_neg (by simp)] at h
      by_cases e2 : (Lib.indexByte r c == -1) = true
      · rw [if_pos e2] at h; omega
      · rw [if_neg e2] at h
        have hg := Lib.indexByte_ge r c
        have hne : Lib.indexByte r c ≠ -1 := by simpa using e2
        obtain ⟨j, hj⟩ : ∃ j : Nat, Lib.indexByte r c = j := ⟨(Lib.indexByte r c).toNat, by omega⟩
        obtain rfl : i = j + 1 := by omega
        obtain ⟨h1, h2⟩ := ih j hj
        refine ⟨by simp; omega, ?_⟩
        simp only [splitB, e', h2]
        simp
theorem splitB_join (c : UInt8) (l r : List UInt8) : splitB c (l ++ c :: r) = splitB c l ++ splitB c r := by
  induction l with
  | nil => simp [splitB]
  | cons b t ih =>
    by_cases h : b == c
    · simp only [List.cons_append, splitB, h, if_pos, ih]
    · have h' : (b == c) = false := by simpa using h
      simp only [List.cons_append, splitB, h', ih]
      cases hs : splitB c t with
      | nil => exact absurd hs (splitB_ne c t)
      | cons p q => simp
theorem splitB_no (c : UInt8) (l : List UInt8) (h : ∀ b ∈ l, b ≠ c) : splitB c l = [l] := by
  induction l with
  | nil => rfl
  | cons b r ih =>
    have h' : (b == c) = false := by simpa using h b (by simp)
    simp only [splitB, h', ih (fun x hx => h x (by simp [hx]))]
    rfl

/-- a text without a line feed at its end -/
def trimNL : List UInt8 → List UInt8
  | [] => []
  | [c] => if c = 10 then [] else [c]
  | c :: d :: r => c :: trimNL (d :: r)
theorem trim_is (l : List UInt8) : Lib.trimSuffix l [10] = trimNL l := by
  induction l with
  | nil => rfl
  | cons c r ih =>
    cases r with
    | nil =>
      unfold Lib.trimSuffix Lib.hasSuffix trimNL
      by_cases h : c = 10
      · subst h; rfl
      · rw [if_neg h, if_neg]
        intro hs
        rw [List.isSuffixOf_iff_suffix] at hs
        have := hs.eq_of_length rfl
        simp at this
        exact h this.symm
    | cons d t =>
      have e : Lib.hasSuffix (c :: d :: t) [10] = Lib.hasSuffix (d :: t) [10] := by
        unfold Lib.hasSuffix
        rw [Bool.eq_iff_iff, List.isSuffixOf_iff_suffix, List.isSuffixOf_iff_suffix, List.suffix_cons_iff]
        simp
      unfold trimNL
      rw [← ih]
      unfold Lib.trimSuffix
      rw [e]
      cases Lib.hasSuffix (d :: t) [10]
      · rfl
      · simp

def tooLong (p : List UInt8) : Bool := decide (300 < p.length)
def rawL (l : List UInt8) : List (List UInt8) := splitB 10 (trimNL l)
/-- the lines of a text, the number of the wrong one, and the error -/
def linesL (l : List UInt8) : List (List UInt8) := if 8388608 < l.length ∨ (rawL l).any tooLong = true then [] else rawL l
def linesN (l : List UInt8) : Int := if 8388608 < l.length then 1 else if (rawL l).any tooLong = true then ((rawL l).findIdx tooLong : Int) + 1 else 0
def linesE (l : List UInt8) : Int := if 8388608 < l.length ∨ (rawL l).any tooLong = true then 6 else 0

/-- the document's way: the lines that are still to come, with what has been read of the next one; b: something has been read -/
def pieces : List UInt8 → List UInt8 → Bool → List (List UInt8)
  | [], cur, b => if cur = [] ∧ b = true then [] else [cur]
  | c :: r, cur, _ => if c = 10 then cur :: pieces r [] true else pieces r (cur ++ [c]) true
theorem pieces_is (r cur : List UInt8) (b : Bool) (hc : ∀ x ∈ cur, x ≠ 10) (h : ¬ (r = [] ∧ cur = [] ∧ b = true)) : pieces r cur b = splitB 10 (cur ++ trimNL r) := by
  induction r generalizing cur b with
  | nil =>
    unfold pieces trimNL
    rw [if_neg (by simpa using h), List.append_nil, splitB_no _ _ hc]
  | cons c t ih =>
    unfold pieces
    by_cases e : c = 10
    · subst e
      rw [if_pos rfl]
      cases t with
      | nil => simp [pieces, trimNL, splitB_no _ _ hc]
      | cons d u =>
        rw [ih [] true (by simp) (by simp), trimNL, splitB_join, splitB_no _ _ hc]
        rfl
    · rw [if_neg e, ih (cur ++ [c]) true (by intro x hx; rcases List.mem_append.1 hx with h1 | h1; exact hc x h1; simp at h1; subst h1; exact e) (by simp)]
      cases t with
      | nil => simp [trimNL, e]
      | cons d u => rw [trimNL]; simp
theorem pieces_all (l : List UInt8) : pieces l [] false = rawL l := by
  rw [pieces_is l [] false (by simp) (by simp)]; rfl
theorem rawL_ne (l : List UInt8) : rawL l ≠ [] := splitB_ne _ _
theorem rawL_length (l : List UInt8) : (rawL l).length ≤ l.length + 1 := by
  have h1 : ∀ l : List UInt8, (splitB 10 l).length ≤ l.length + 1 := by
    intro l
    induction l with
    | nil => simp [splitB]
    | cons c r ih =>
      simp only [splitB]
      split
      · simp; omega
      · cases hs : splitB 10 r with
        | nil => simp
        | cons p q => rw [hs] at ih; simp at ih ⊢; omega
  have h2 : ∀ l : List UInt8, (trimNL l).length ≤ l.length := by
    intro l
    induction l with
    | nil => simp [trimNL]
    | cons c r ih =>
      cases r with
      | nil => simp only [trimNL]; split <;> simp
      | cons d t => simp only [trimNL, List.length_cons] at *; omega
  have := h1 (trimNL l)
  have := h2 l
  unfold rawL
  omega
end Go.Proofs.YtjdckmhlgcjdgaaDoor.Lx
