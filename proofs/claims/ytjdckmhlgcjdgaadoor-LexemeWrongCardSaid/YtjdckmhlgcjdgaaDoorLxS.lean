/- Plain laws: the fields of a line that was made of fields are these; what a bad byte, a quote that does not end, and a comment do. -/
import Derived.Test.YtjdckmhlgcjdgaaDoorLxQ
namespace Go.Proofs.YtjdckmhlgcjdgaaDoor.Lx
open Lex (fieldsGo printB fieldsL fieldsE errOf)

theorem go_cons (c : UInt8) (r : List UInt8) (out : List (List UInt8)) (f : List UInt8) (ins quo : Bool) : fieldsGo (c :: r) out f ins quo =
    if quo then (if c.toNat = 34 then fieldsGo r out f ins false else if printB c.toNat then fieldsGo r out (f ++ [c]) ins true else none)
    else if c.toNat = 34 then fieldsGo r out f true true
    else if c.toNat = 35 then some (if ins then out ++ [f] else out)
    else if c.toNat = 9 ∨ c.toNat = 32 then (if ins then fieldsGo r (out ++ [f]) [] false false else fieldsGo r out f false false)
    else if printB c.toNat then fieldsGo r out (f ++ [c]) true false else none := rfl
theorem good_34 {c : UInt8} (h : goodB c.toNat = true) : c.toNat ≠ 34 ∧ printB c.toNat = true := by
  unfold goodB at h; simp at h; exact ⟨h.2, h.1⟩
/-- a quoted part -/
theorem go_inq (p r : List UInt8) (out : List (List UInt8)) (f : List UInt8) (ins : Bool) (hp : goodF p = true) : fieldsGo (p ++ 34 :: r) out f ins true = fieldsGo r out (f ++ p) ins false := by
  induction p generalizing f with
  | nil => rw [List.nil_append, go_cons]; simp
  | cons c q ih =>
    unfold goodF at hp
    rw [List.all_cons, Bool.and_eq_true] at hp
    obtain ⟨h1, h2⟩ := good_34 hp.1
    rw [List.cons_append, go_cons, if_pos rfl, if_neg h1, if_pos h2, ih _ hp.2]
    simp
theorem go_part (p r : List UInt8) (out : List (List UInt8)) (f : List UInt8) (ins : Bool) (hp : goodF p = true) : fieldsGo (34 :: (p ++ 34 :: r)) out f ins false = fieldsGo r out (f ++ p) true false := by
  rw [go_cons, if_neg (by simp), if_pos (show (34 : UInt8).toNat = 34 from rfl), go_inq p r out f true hp]

/-- a text that is read as one field -/
def IsField (t f : List UInt8) : Prop := ∀ r out, fieldsGo (t ++ r) out [] false false = fieldsGo r out f true false
theorem bare_word (p r : List UInt8) (out : List (List UInt8)) (f : List UInt8) (hg : goodF p = true) (hb : ∀ c ∈ p, c.toNat ≠ 32 ∧ c.toNat ≠ 35) : fieldsGo (p ++ r) out f true false = fieldsGo r out (f ++ p) true false := by
  induction p generalizing f with
  | nil => simp
  | cons c q ih =>
    unfold goodF at hg
    rw [List.all_cons, Bool.and_eq_true] at hg
    obtain ⟨h1, h2⟩ := good_34 hg.1
    obtain ⟨h3, h4⟩ := hb c (by simp)
    have h9 : c.toNat ≠ 9 := by intro e; rw [e] at h2; exact absurd h2 (by decide)
    rw [List.cons_append, go_cons, if_neg (by simp), if_neg h1, if_neg h4, if_neg (by omega), if_pos h2, ih _ hg.2 (fun x hx => hb x (by simp [hx]))]
    simp
theorem quoteF_field (f : List UInt8) (hg : goodF f = true) : IsField (quoteF f) f := by
  intro r out
  unfold quoteF
  cases hb : bareB f
  · rw [if_neg (by simp), List.cons_append, List.append_assoc, List.singleton_append, go_part f r out [] false hg]
    simp
  · rw [if_pos rfl]
    unfold bareB at hb
    rw [Bool.and_eq_true, List.all_eq_true] at hb
    cases f with
    | nil => simp at hb
    | cons c q =>
      have hc := hb.1 c (by simp)
      simp at hc
      have hg' := hg
      unfold goodF at hg
      rw [List.all_cons, Bool.and_eq_true] at hg
      obtain ⟨h1, h2⟩ := good_34 hg.1
      have h9 : c.toNat ≠ 9 := by intro e; rw [e] at h2; exact absurd h2 (by decide)
      rw [List.cons_append, go_cons, if_neg (by simp), if_neg h1, if_neg hc.2, if_neg (by omega), if_pos h2]
      rw [bare_word q r out _ hg.2 (fun x hx => by have := hb.1 x (by simp [hx]); simpa using this)]
      rfl
/-- three quoted parts in a row -/
def quote3 (f : List UInt8) (a b : Nat) : List UInt8 := 34 :: (f.take a ++ 34 :: 34 :: ((f.take b).drop a ++ 34 :: 34 :: (f.drop b ++ [34])))
theorem goodF_sub {f p : List UInt8} (hg : goodF f = true) (h : ∀ c ∈ p, c ∈ f) : goodF p = true := by
  unfold goodF at *
  rw [List.all_eq_true] at *
  exact fun c hc => hg c (h c hc)
theorem quote3_field (f : List UInt8) (a b : Nat) (hab : a ≤ b) (hg : goodF f = true) : IsField (quote3 f a b) f := by
  intro r out
  unfold quote3
  have h1 : goodF (f.take a) = true := goodF_sub hg (fun c hc => List.mem_of_mem_take hc)
  have h2 : goodF ((f.take b).drop a) = true := goodF_sub hg (fun c hc => List.mem_of_mem_take (List.mem_of_mem_drop hc))
  have h3 : goodF (f.drop b) = true := goodF_sub hg (fun c hc => List.mem_of_mem_drop hc)
  simp only [List.cons_append, List.append_assoc, List.nil_append]
  rw [go_part _ _ _ _ _ h1, go_part _ _ _ _ _ h2, go_part _ _ _ _ _ h3]
  congr 1
  rw [List.nil_append]
  have e1 : f.take a ++ (f.take b).drop a = f.take b := by
    have : (f.take b).take a = f.take a := by rw [List.take_take, Nat.min_eq_left hab]
    rw [← this, List.take_append_drop]
  rw [e1, List.take_append_drop]

/-- pieces with a byte between two of them -/
def sepBy (s : UInt8) : List (List UInt8) → List UInt8
  | [] => []
  | t :: r => t ++ (r.flatMap fun g => s :: g)
theorem sepBy_snoc (s : UInt8) (T : List (List UInt8)) (t : List UInt8) (h : T ≠ []) : sepBy s (T ++ [t]) = sepBy s T ++ s :: t := by
  cases T with
  | nil => exact absurd rfl h
  | cons g r => simp [sepBy]
theorem joinL_sep (F : List (List UInt8)) : joinL F = sepBy 32 (F.map quoteF) := by
  cases F with
  | nil => rfl
  | cons f r => simp [joinL, sepBy, List.flatMap_map]
/-- what may stand behind the last field -/
def Clos (r : List UInt8) : Prop := (∀ out f, fieldsGo r out f true false = some (out ++ [f])) ∧ ∀ out, fieldsGo r out [] false false = some out
theorem clos_nil : Clos [] := ⟨fun _ _ => rfl, fun _ => rfl⟩
theorem clos_hash (r : List UInt8) : Clos (35 :: r) := ⟨fun _ _ => rfl, fun _ => rfl⟩
theorem clos_space {r : List UInt8} (h : Clos r) : Clos (32 :: r) := ⟨fun out f => by rw [go_cons]; exact h.2 _, fun out => by rw [go_cons]; exact h.2 _⟩
theorem go_tail (s : UInt8) (hs : s = 32 ∨ s = 9) (P : List (List UInt8 × List UInt8)) (hP : ∀ p ∈ P, IsField p.1 p.2) (r : List UInt8) (out : List (List UInt8)) (f : List UInt8) (hr : Clos r) :
    fieldsGo ((P.flatMap fun p => s :: p.1) ++ r) out f true false = some (out ++ f :: P.map Prod.snd) := by
  induction P generalizing out f with
  | nil => simpa using hr.1 out f
  | cons p q ih =>
    have h1 : s.toNat ≠ 34 ∧ s.toNat ≠ 35 ∧ (s.toNat = 9 ∨ s.toNat = 32) := by rcases hs with rfl | rfl <;> decide
    rw [List.flatMap_cons, List.append_assoc, List.cons_append, go_cons, if_neg (by simp), if_neg h1.1, if_neg h1.2.1, if_pos h1.2.2, if_pos rfl, hP p (by simp), ih (fun x hx => hP x (by simp [hx]))]
    simp
theorem go_sep (s : UInt8) (hs : s = 32 ∨ s = 9) (P : List (List UInt8 × List UInt8)) (hP : ∀ p ∈ P, IsField p.1 p.2) (r : List UInt8) (hr : Clos r) :
    fieldsGo (sepBy s (P.map Prod.fst) ++ r) [] [] false false = some (P.map Prod.snd) := by
  cases P with
  | nil => simpa [sepBy] using hr.2 []
  | cons p q =>
    have := go_tail s hs q (fun x hx => hP x (by simp [hx])) r [] p.2 hr
    simp only [List.map_cons, sepBy, List.flatMap_map, List.append_assoc]
    rw [hP p (by simp), this]
    simp
theorem go_join (F : List (List UInt8)) (hg : ∀ f ∈ F, goodF f = true) (r : List UInt8) (hr : Clos r) : fieldsGo (joinL F ++ r) [] [] false false = some F := by
  have := go_sep 32 (.inl rfl) (F.map fun f => (quoteF f, f)) (fun p hp => by
    obtain ⟨f, hf, rfl⟩ := List.mem_map.1 hp
    exact quoteF_field f (hg f hf)) r hr
  rw [List.map_map, List.map_map] at this
  rw [joinL_sep]
  simpa [Function.comp_def] using this
theorem go_spaces (s : UInt8) (hs : s = 32 ∨ s = 9) (r : List UInt8) (out : List (List UInt8)) : fieldsGo (s :: r) out [] false false = fieldsGo r out [] false false := by
  rcases hs with rfl | rfl <;> rfl
theorem fields_of {l : List UInt8} {F : List (List UInt8)} (hl : l.length ≤ 300) (h : fieldsGo l [] [] false false = some F) : fieldsL l = F ∧ fieldsE l = 0 := by
  unfold fieldsL fieldsE
  rw [if_neg (by omega), if_neg (by omega), h]
  exact ⟨rfl, rfl⟩
theorem fields_no {l : List UInt8} (hl : l.length ≤ 300) (h : fieldsGo l [] [] false false = none) : fieldsL l = [] ∧ fieldsE l = 5 := by
  unfold fieldsL fieldsE
  rw [if_neg (by omega), if_neg (by omega), h]
  exact ⟨rfl, rfl⟩

/-- the state behind some bytes that do not end the line -/
def scan : List UInt8 → List (List UInt8) → List UInt8 → Bool → Bool → Option (List (List UInt8) × List UInt8 × Bool × Bool)
  | [], out, f, ins, quo => some (out, f, ins, quo)
  | c :: r, out, f, ins, quo =>
    if quo then (if c.toNat = 34 then scan r out f ins false else if printB c.toNat then scan r out (f ++ [c]) ins true else none)
    else if c.toNat = 34 then scan r out f true true
    else if c.toNat = 35 then none
    else if c.toNat = 9 ∨ c.toNat = 32 then (if ins then scan r (out ++ [f]) [] false false else scan r out f false false)
    else if printB c.toNat then scan r out (f ++ [c]) true false else none
theorem scan_go (l r : List UInt8) (out : List (List UInt8)) (f : List UInt8) (ins quo : Bool) (s : List (List UInt8) × List UInt8 × Bool × Bool) (h : scan l out f ins quo = some s) : fieldsGo (l ++ r) out f ins quo = fieldsGo r s.1 s.2.1 s.2.2.1 s.2.2.2 := by
  induction l generalizing out f ins quo with
  | nil =>
    simp only [scan] at h
    injection h with h
    subst h; rfl
  | cons c t ih =>
    rw [List.cons_append, go_cons]
    simp only [scan] at h
    cases quo
    · simp only [Bool.false_eq_true, if_false] at h ⊢
      by_cases c34 : c.toNat = 34
      · rw [if_pos c34] at h ⊢
        exact ih _ _ _ _ h
      · rw [if_neg c34] at h ⊢
        by_cases c35 : c.toNat = 35
        · rw [if_pos c35] at h; cases h
        · rw [if_neg c35] at h ⊢
          by_cases c9 : c.toNat = 9 ∨ c.toNat = 32
          · rw [if_pos c9] at h ⊢
            cases ins
            · exact ih _ _ _ _ h
            · exact ih _ _ _ _ h
          · rw [if_neg c9] at h ⊢
            cases hp : printB c.toNat
            · rw [hp] at h; cases h
            · rw [hp] at h
              exact ih _ _ _ _ h
    · simp only [if_true] at h ⊢
      by_cases c34 : c.toNat = 34
      · rw [if_pos c34] at h ⊢
        exact ih _ _ _ _ h
      · rw [if_neg c34] at h ⊢
        cases hp : printB c.toNat
        · rw [hp] at h; cases h
        · rw [hp] at h
          exact ih _ _ _ _ h
theorem scan_prefix' (l r : List UInt8) (out : List (List UInt8)) (f : List UInt8) (ins quo : Bool) (h : scan l out f ins quo = none) : scan (l ++ r) out f ins quo = none := by
  induction l generalizing out f ins quo with
  | nil => cases h
  | cons c t ih =>
    rw [List.cons_append]
    simp only [scan] at h ⊢
    cases quo
    · simp only [Bool.false_eq_true, if_false] at h ⊢
      by_cases c34 : c.toNat = 34
      · rw [if_pos c34] at h ⊢
        exact ih _ _ _ _ h
      · rw [if_neg c34] at h ⊢
        by_cases c35 : c.toNat = 35
        · rw [if_pos c35]
        · rw [if_neg c35] at h ⊢
          by_cases c9 : c.toNat = 9 ∨ c.toNat = 32
          · rw [if_pos c9] at h ⊢
            cases ins
            · exact ih _ _ _ _ h
            · exact ih _ _ _ _ h
          · rw [if_neg c9] at h ⊢
            cases hp : printB c.toNat
            · rfl
            · rw [hp] at h
              exact ih _ _ _ _ h
    · simp only [if_true] at h ⊢
      by_cases c34 : c.toNat = 34
      · rw [if_pos c34] at h ⊢
        exact ih _ _ _ _ h
      · rw [if_neg c34] at h ⊢
        cases hp : printB c.toNat
        · rfl
        · rw [hp] at h
          exact ih _ _ _ _ h
theorem scan_prefix {l r : List UInt8} {out : List (List UInt8)} {f : List UInt8} {ins quo : Bool} {s : List (List UInt8) × List UInt8 × Bool × Bool} (h : scan (l ++ r) out f ins quo = some s) : ∃ s', scan l out f ins quo = some s' := by
  cases hl : scan l out f ins quo with
  | none => rw [scan_prefix' l r out f ins quo hl] at h; cases h
  | some s' => exact ⟨s', rfl⟩
theorem go_bad (c : UInt8) (r : List UInt8) (out : List (List UInt8)) (f : List UInt8) (ins quo : Bool) (h : (c.toNat < 32 ∧ c.toNat ≠ 9) ∨ 126 < c.toNat) : fieldsGo (c :: r) out f ins quo = none := by
  have hp : printB c.toNat = false := by unfold printB; simp; omega
  rw [go_cons]
  cases quo
  · rw [if_neg (by simp), if_neg (by omega), if_neg (by omega), if_neg (by omega), hp]; rfl
  · rw [if_pos rfl, if_neg (by omega), hp]; rfl
/-- a line without a comment: it is read to its end -/
theorem scan_of (l : List UInt8) (out : List (List UInt8)) (f : List UInt8) (ins quo : Bool) (h : ∀ r, r = [32, 34] → fieldsGo (l ++ r) out f ins quo = none) (h2 : fieldsGo l out f ins quo ≠ none) : ∃ s, scan l out f ins quo = some s := by
  induction l generalizing out f ins quo with
  | nil => exact ⟨_, rfl⟩
  | cons c t ih =>
    have h' := h [32, 34] rfl
    rw [List.cons_append, go_cons] at h'
    rw [go_cons] at h2
    simp only [scan]
    cases quo
    · simp only [Bool.false_eq_true, if_false] at h' h2 ⊢
      by_cases c34 : c.toNat = 34
      · rw [if_pos c34] at h' h2 ⊢
        exact ih _ _ _ _ (fun r hr => by subst hr; exact h') h2
      · rw [if_neg c34] at h' h2 ⊢
        by_cases c35 : c.toNat = 35
        · rw [if_pos c35] at h'; cases h'
        · rw [if_neg c35] at h' h2 ⊢
          by_cases c9 : c.toNat = 9 ∨ c.toNat = 32
          · rw [if_pos c9] at h' h2 ⊢
            cases ins
            · exact ih _ _ _ _ (fun r hr => by subst hr; exact h') h2
            · exact ih _ _ _ _ (fun r hr => by subst hr; exact h') h2
          · rw [if_neg c9] at h' h2 ⊢
            cases hp : printB c.toNat
            · rw [hp] at h2; exact absurd rfl h2
            · rw [hp] at h' h2
              exact ih _ _ _ _ (fun r hr => by subst hr; exact h') h2
    · simp only [if_true] at h' h2 ⊢
      by_cases c34 : c.toNat = 34
      · rw [if_pos c34] at h' h2 ⊢
        exact ih _ _ _ _ (fun r hr => by subst hr; exact h') h2
      · rw [if_neg c34] at h' h2 ⊢
        cases hp : printB c.toNat
        · rw [hp] at h2; exact absurd rfl h2
        · rw [hp] at h' h2
          exact ih _ _ _ _ (fun r hr => by subst hr; exact h') h2
/-- behind a line of fields a quote that does not end is wrong -/
def Ends (r : List UInt8) : Prop := (∀ out f, fieldsGo r out f true false = none) ∧ ∀ out, fieldsGo r out [] false false = none
theorem ends_quote (r : List UInt8) (hr : ∀ out f ins, fieldsGo r out f ins true = none) : Ends (32 :: 34 :: r) := ⟨fun out f => by rw [go_cons, go_cons]; exact hr _ _ _, fun out => by rw [go_cons, go_cons]; exact hr _ _ _⟩
theorem go_tail_no (s : UInt8) (hs : s = 32 ∨ s = 9) (P : List (List UInt8 × List UInt8)) (hP : ∀ p ∈ P, IsField p.1 p.2) (r : List UInt8) (out : List (List UInt8)) (f : List UInt8) (hr : Ends r) :
    fieldsGo ((P.flatMap fun p => s :: p.1) ++ r) out f true false = none := by
  induction P generalizing out f with
  | nil => simpa using hr.1 out f
  | cons p q ih =>
    have h1 : s.toNat ≠ 34 ∧ s.toNat ≠ 35 ∧ (s.toNat = 9 ∨ s.toNat = 32) := by rcases hs with rfl | rfl <;> decide
    rw [List.flatMap_cons, List.append_assoc, List.cons_append, go_cons, if_neg (by simp), if_neg h1.1, if_neg h1.2.1, if_pos h1.2.2, if_pos rfl, hP p (by simp), ih (fun x hx => hP x (by simp [hx]))]
theorem go_join_no (F : List (List UInt8)) (hg : ∀ f ∈ F, goodF f = true) (r : List UInt8) (hr : Ends r) : fieldsGo (joinL F ++ r) [] [] false false = none := by
  cases F with
  | nil => simpa [joinL] using hr.2 []
  | cons f q =>
    have h1 := go_tail_no 32 (.inl rfl) (q.map fun f => (quoteF f, f)) (fun p hp => by
      obtain ⟨g, hf, rfl⟩ := List.mem_map.1 hp
      exact quoteF_field g (hg g (by simp [hf]))) r [] f hr
    rw [List.flatMap_map] at h1
    simp only [joinL, List.append_assoc]
    rw [quoteF_field f (hg f (by simp)), h1]
theorem join_scan (F : List (List UInt8)) (hg : ∀ f ∈ F, goodF f = true) : ∃ s, scan (joinL F) [] [] false false = some s := by
  refine scan_of _ _ _ _ _ (fun r hr => by subst hr; exact go_join_no F hg _ (ends_quote [] (fun _ _ _ => rfl))) ?_
  have := go_join F hg [] clos_nil
  rw [List.append_nil] at this
  rw [this]; simp
theorem go_insert (F : List (List UInt8)) (hg : ∀ f ∈ F, goodF f = true) (k : Nat) (c : UInt8) (h : (c.toNat < 32 ∧ c.toNat ≠ 9) ∨ 126 < c.toNat) (r : List UInt8) : fieldsGo ((joinL F).take k ++ c :: r) [] [] false false = none := by
  obtain ⟨s, hs⟩ := join_scan F hg
  rw [← List.take_append_drop k (joinL F)] at hs
  obtain ⟨s', hs'⟩ := scan_prefix hs
  rw [scan_go _ _ _ _ _ _ _ hs', go_bad _ _ _ _ _ _ h]
end Go.Proofs.YtjdckmhlgcjdgaaDoor.Lx
