/- Plain laws for fields: the document's way to find the fields of a line gives what fieldsGo gives; what joined fields are. -/
import Derived.Test.YtjdckmhlgcjdgaaDoorLexA
namespace Go.Proofs.YtjdckmhlgcjdgaaDoor.Lx
open Lex (fieldsGo printB)

/-- a byte that can stand in a field outside of quotes -/
def plainB (n : Nat) : Bool := decide (33 ≤ n) && decide (n ≤ 126) && decide (n ≠ 35) && decide (n ≠ 34)
/-- the rest of a quoted part: the part, and what stands behind its end -/
def q2 : List UInt8 → List UInt8 → Option (List UInt8 × List UInt8)
  | [], _ => none
  | c :: r, acc => if printB c.toNat = true then (if c.toNat = 34 then some (acc, r) else q2 r (acc ++ [c])) else none
/-- the rest of a field: the field, and what stands behind it -/
def fld : List UInt8 → List UInt8 → Bool → Option (List UInt8 × List UInt8)
  | [], cur, quo => if quo then none else some (cur, [])
  | c :: r, cur, quo =>
    if quo then (if c.toNat = 34 then fld r cur false else if printB c.toNat then fld r (cur ++ [c]) true else none)
    else if plainB c.toNat = true then fld r (cur ++ [c]) false
    else if c.toNat = 34 then fld r cur true
    else some (cur, c :: r)
theorem fld_quo (r cur acc : List UInt8) : fld r (cur ++ acc) true = match q2 r acc with | none => none | some (p, t) => fld t (cur ++ p) false := by
  induction r generalizing acc with
  | nil => rfl
  | cons c t ih =>
    by_cases h : c.toNat = 34
    · have hp : printB c.toNat = true := by rw [h]; rfl
      simp [fld, q2, h]
      simp [printB]
    · cases hp : printB c.toNat
      · simp [fld, q2, h, hp]
      · have := ih (acc ++ [c])
        simp only [fld, q2, h, hp, if_true, if_false]
        rw [List.append_assoc, this]
theorem fld_none {r : List UInt8} (cur : List UInt8) (h : q2 r [] = none) : fld r cur true = none := by
  have := fld_quo r cur []
  rw [h, List.append_nil] at this
  exact this
theorem fld_some {r p t : List UInt8} (cur : List UInt8) (h : q2 r [] = some (p, t)) : fld r cur true = fld t (cur ++ p) false := by
  have := fld_quo r cur []
  rw [h, List.append_nil] at this
  exact this
theorem q2_len (r acc : List UInt8) (p t : List UInt8) (h : q2 r acc = some (p, t)) : p.length + t.length + 1 = acc.length + r.length := by
  induction r generalizing acc with
  | nil => simp [q2] at h
  | cons c u ih =>
    simp only [q2] at h
    split at h
    · split at h
      · injection h with h
        injection h with h1 h2
        subst h1 h2
        simp; omega
      · have := ih _ h
        simp at this ⊢; omega
    · cases h
theorem fld_len (r cur : List UInt8) (quo : Bool) (p t : List UInt8) (h : fld r cur quo = some (p, t)) : p.length + t.length ≤ cur.length + r.length ∧ t.length ≤ r.length := by
  induction r generalizing cur quo with
  | nil =>
    simp only [fld] at h
    cases quo
    · simp at h; obtain ⟨rfl, rfl⟩ := h; simp
    · simp at h
  | cons c u ih =>
    simp only [fld] at h
    cases quo
    · simp only [Bool.false_eq_true, if_false] at h
      split at h
      · have := ih _ _ h; simp at this ⊢; omega
      · split at h
        · have := ih _ _ h; simp at this ⊢; omega
        · injection h with h
          injection h with h1 h2
          subst h1 h2
          simp
    · simp only [if_true] at h
      split at h
      · have := ih _ _ h; simp at this ⊢; omega
      · split at h
        · have := ih _ _ h; simp at this ⊢; omega
        · cases h
theorem go_fld (r : List UInt8) (out : List (List UInt8)) (cur : List UInt8) (quo : Bool) :
    fieldsGo r out cur true quo = match fld r cur quo with | none => none | some (f, t) => fieldsGo t (out ++ [f]) [] false false := by
  induction r generalizing cur quo with
  | nil => cases quo <;> simp [fieldsGo, fld]
  | cons c t ih =>
    cases quo
    · by_cases hp : plainB c.toNat = true
      · have h : c.toNat ≠ 34 ∧ c.toNat ≠ 35 ∧ c.toNat ≠ 9 ∧ c.toNat ≠ 32 ∧ printB c.toNat = true := by
          unfold plainB at hp; unfold printB; simp at hp ⊢; omega
        obtain ⟨h1, h2, h3, h4, h5⟩ := h
        simp only [fieldsGo, fld, hp, h1, h2, h3, h4, h5, or_self, if_true, if_false, Bool.false_eq_true]
        exact ih _ _
      · by_cases h34 : c.toNat = 34
        · simp only [fieldsGo, fld, h34, if_true, if_false, Bool.false_eq_true]
          simp only [show plainB 34 = false from rfl, Bool.false_eq_true, if_false]
          exact ih _ _
        · have hp' : plainB c.toNat = false := by simpa using hp
          have h6 : c.toNat = 35 ∨ printB c.toNat = false ∨ c.toNat = 32 := by
            unfold plainB at hp'; unfold printB; simp at hp' ⊢; omega
          simp only [fieldsGo, fld, hp', h34, if_true, if_false, Bool.false_eq_true]
          by_cases h35 : c.toNat = 35
          · simp [h35]
          · by_cases h9 : c.toNat = 9 ∨ c.toNat = 32
            · simp only [h35, h9, if_true, if_false]
            · have h5 : printB c.toNat = false := by rcases h6 with h | h | h; exact absurd h h35; exact h; exact absurd (Or.inr h) h9
              simp only [h35, h9, h5, if_false, Bool.false_eq_true]
    · by_cases h34 : c.toNat = 34
      · simp only [fieldsGo, fld, h34, if_true]
        exact ih _ _
      · cases hp : printB c.toNat
        · simp [fieldsGo, fld, h34, hp]
        · simp only [fieldsGo, fld, h34, hp, if_true, if_false]
          exact ih _ _
/-- a byte that begins a field -/
theorem go_first (c : UInt8) (r : List UInt8) (out : List (List UInt8)) (h : plainB c.toNat = true ∨ c.toNat = 34) :
    fieldsGo (c :: r) out [] false false = match fld (c :: r) [] false with | none => none | some (f, t) => fieldsGo t (out ++ [f]) [] false false := by
  rw [← go_fld (c :: r) out [] false]
  rcases h with h | h
  · have h' : c.toNat ≠ 34 ∧ c.toNat ≠ 35 ∧ c.toNat ≠ 9 ∧ c.toNat ≠ 32 ∧ printB c.toNat = true := by
      unfold plainB at h; unfold printB; simp at h ⊢; omega
    obtain ⟨h1, h2, h3, h4, h5⟩ := h'
    simp [fieldsGo, h1, h2, h3, h4, h5]
  · simp [fieldsGo, h]

/-- a byte that a field may have -/
def goodB (n : Nat) : Bool := printB n && decide (n ≠ 34)
def goodF (f : List UInt8) : Bool := f.all fun c => goodB c.toNat
def bareB (f : List UInt8) : Bool := (f.all fun c => decide (c.toNat ≠ 32) && decide (c.toNat ≠ 35)) && !f.isEmpty
def quoteF (f : List UInt8) : List UInt8 := if bareB f then f else 34 :: (f ++ [34])
def joinL : List (List UInt8) → List UInt8
  | [] => []
  | f :: r => quoteF f ++ (r.flatMap fun g => 32 :: quoteF g)
/-- the joined fields, and the error -/
def joinS (F : List (List UInt8)) : List UInt8 := if F.all goodF then (if 300 < (joinL F).length then [] else joinL F) else []
def joinE (F : List (List UInt8)) : Int := if F.all goodF then (if 300 < (joinL F).length then 6 else 0) else 2
theorem joinL_snoc (F : List (List UInt8)) (f : List UInt8) (h : F ≠ []) : joinL (F ++ [f]) = joinL F ++ 32 :: quoteF f := by
  cases F with
  | nil => exact absurd rfl h
  | cons g r => simp [joinL]
theorem joinL_take (F : List (List UInt8)) (k : Nat) (hk : k < F.length) : joinL (F.take (k + 1)) = (if k = 0 then [] else joinL (F.take k) ++ [32]) ++ quoteF F[k] := by
  rw [List.take_succ_eq_append_getElem hk]
  by_cases h : k = 0
  · subst h; simp [joinL]
  · rw [if_neg h, joinL_snoc]
    · simp
    · intro e
      have := congrArg List.length e
      rw [List.length_take, List.length_nil] at this
      omega
theorem quoteF_len (f : List UInt8) : (quoteF f).length ≤ f.length + 2 := by unfold quoteF; split <;> simp
def sumL (F : List (List UInt8)) : Nat := (F.map fun f => f.length + 3).sum
theorem joinL_len (F : List (List UInt8)) : (joinL F).length ≤ sumL F := by
  cases F with
  | nil => simp [joinL]
  | cons f r =>
    have h : ∀ r : List (List UInt8), (r.flatMap fun g => 32 :: quoteF g).length ≤ sumL r := by
      intro r
      induction r with
      | nil => simp
      | cons g t ih =>
        have := quoteF_len g
        simp [sumL] at ih ⊢
        omega
    have := h r
    have := quoteF_len f
    simp [joinL, sumL] at *
    omega
theorem sumL_take (F : List (List UInt8)) (k : Nat) : sumL (F.take k) ≤ sumL F := by
  induction F generalizing k with
  | nil => simp [sumL]
  | cons f r ih =>
    cases k with
    | zero => simp [sumL]
    | succ k => have := ih k; simp [sumL] at this ⊢; omega
theorem joinL_le (F : List (List UInt8)) (k : Nat) : (joinL (F.take k)).length ≤ (joinL F).length := by
  by_cases h : k ≤ F.length
  · have e : ∀ (A B : List (List UInt8)), (joinL A).length ≤ (joinL (A ++ B)).length := by
      intro A B
      cases A with
      | nil => simp [joinL]
      | cons f r => simp [joinL]
    have := e (F.take k) (F.drop k)
    rwa [List.take_append_drop] at this
  · rw [List.take_of_length_le (by omega)]; exact Nat.le_refl _
end Go.Proofs.YtjdckmhlgcjdgaaDoor.Lx
