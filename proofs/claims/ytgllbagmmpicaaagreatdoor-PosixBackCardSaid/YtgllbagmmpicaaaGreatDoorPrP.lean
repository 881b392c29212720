/- TZ strings, the plain laws: what a string is read as, by two readers that agree. No program in sight. -/
import Derived.Test.YtgllbagmmpicaaaGreatDoorOffR
import Derived.Test.YtgllbagmmpicaaaGreatDoorPxK
import Derived.Lib.AtoiAll
import Derived.Lib.ItoaNum
namespace Go.Proofs.YtgllbagmmpicaaaGreatDoor.Px
open Off (run past digQ valD parseO)
open Go (Lib.NumEnd)

def nextB (c : UInt8) (l : List UInt8) : Bool := l.head? == some c
def nextR (c : UInt8) (l : List UInt8) : List UInt8 := if nextB c l then l.drop 1 else l
/-- a name: what bytes it can have, itself, what is behind it, whether its end is missing -/
def nmP (l : List UInt8) : UInt8 → Bool := if nextB 60 l then inB else letC
def nmS (l : List UInt8) : List UInt8 := run (nmP l) (nextR 60 l)
def nmT (l : List UInt8) : List UInt8 := past (nmP l) (nextR 60 l)
def nmR (l : List UInt8) : List UInt8 := if nextB 60 l then nextR 62 (nmT l) else nmT l
def nmB (l : List UInt8) : Bool := nextB 60 l && !nextB 62 (nmT l)
/-- an amount of time -/
def secQ (c : UInt8) : Bool := decide (c.toNat = 45) || decide (c.toNat = 58) || digQ c
def scR (l : List UInt8) : List UInt8 := past secQ l
def scV (l : List UInt8) : Int := (parseO (run secQ l)).1
def scB (l : List UInt8) : Bool := decide ((parseO (run secQ l)).2 ≠ 0)
/-- a number -/
def nuS (l : List UInt8) : List UInt8 := run digQ l
def nuR (l : List UInt8) : List UInt8 := past digQ l
/-- in what two readers differ: the value of a number, whether it is wrong, whether a first name is, whether a second one is, whether an offset at the end is passed over -/
structure Fl where
  nv : List UInt8 → Int
  nb : List UInt8 → Bool
  mb : List UInt8 → Bool
  db : List UInt8 → Bool
  g : Bool
def Fl.v (F : Fl) (l : List UInt8) : Int := F.nv (nuS l)
def Fl.b (F : Fl) (l : List UInt8) : Bool := F.nb (nuS l)
/-- the kind of a date, its month and week, what is behind these, whether something was wrong -/
structure Hd where
  kind : Int
  month : Int
  week : Int
  l : List UInt8
  b : Bool
def headG (F : Fl) (l : List UInt8) : Hd :=
  if nextB 74 l then ⟨1, 0, 0, l.drop 1, false⟩
  else if nextB 77 l then
    ⟨3, F.v (l.drop 1), F.v (nextR 46 (nuR (l.drop 1))), nextR 46 (nuR (nextR 46 (nuR (l.drop 1)))),
      F.b (l.drop 1) || !nextB 46 (nuR (l.drop 1)) || F.b (nextR 46 (nuR (l.drop 1))) || !nextB 46 (nuR (nextR 46 (nuR (l.drop 1))))⟩
  else ⟨2, 0, 0, l, false⟩
/-- a date: itself, what is behind it, whether something was wrong -/
structure Dr where
  d : Dt
  l : List UInt8
  b : Bool
def timeG (k d m w : Int) (l : List UInt8) (b : Bool) : Dr :=
  if nextB 47 l then ⟨⟨k, d, m, w, scV (l.drop 1)⟩, scR (l.drop 1), b || scB (l.drop 1)⟩ else ⟨⟨k, d, m, w, 7200⟩, l, b⟩
def dateG (F : Fl) (l : List UInt8) : Dr :=
  timeG (headG F l).kind (F.v (headG F l).l) (headG F l).month (headG F l).week (nuR (headG F l).l) ((headG F l).b || F.b (headG F l).l)
def bs (l : List UInt8) : ByteArray := ⟨l.toArray⟩
theorem bs_list (l : List UInt8) : (bs l).data.toList = l := rfl
def Pos.zero : Pos := ⟨bs [], 0, bs [], 0, Dt.zero, Dt.zero⟩
/-- a TZ that is read: itself, what is behind it, whether something was wrong -/
structure Pr where
  p : Pos
  l : List UInt8
  b : Bool
def skipG (F : Fl) (l : List UInt8) : Bool := nextB 44 l || (F.g && l.isEmpty)
/-- behind the second offset -/
def datesG (F : Fl) (a : List UInt8) (o : Int) (c : List UInt8) (d : Int) (l : List UInt8) (b : Bool) : Pr :=
  ⟨⟨bs a, o, bs c, d, (dateG F (nextR 44 l)).d, (dateG F (nextR 44 (dateG F (nextR 44 l)).l)).d⟩, (dateG F (nextR 44 (dateG F (nextR 44 l)).l)).l,
    b || !nextB 44 l || (dateG F (nextR 44 l)).b || !nextB 44 (dateG F (nextR 44 l)).l || (dateG F (nextR 44 (dateG F (nextR 44 l)).l)).b⟩
/-- behind the second name -/
def dstG (F : Fl) (a : List UInt8) (o : Int) (c : List UInt8) (l : List UInt8) (b : Bool) : Pr :=
  if skipG F l then datesG F a o c (o + 3600) l b else datesG F a o c (-scV l) (scR l) (b || scB l)
def parseG (F : Fl) (s : List UInt8) : Pr :=
  if (scR (nmR s)).isEmpty then ⟨⟨bs (nmS s), -scV (nmR s), bs [], 0, Dt.zero, Dt.zero⟩, [], nmB s || F.mb (nmS s) || scB (nmR s)⟩
  else dstG F (nmS s) (-scV (nmR s)) (nmS (scR (nmR s))) (nmR (scR (nmR s))) (nmB s || F.mb (nmS s) || scB (nmR s) || nmB (scR (nmR s)) || F.db (nmS (scR (nmR s))))
def Pr.bad (r : Pr) : Bool := r.b || !r.l.isEmpty || !r.p.ok
def Pr.fin (r : Pr) : Pos × Int := if r.bad then (Pos.zero, 5) else (r.p, 0)
/-- what a string is read as, and the error -/
def finG (F : Fl) (s : List UInt8) : Pos × Int := if 100 < s.length then (Pos.zero, 6) else (parseG F s).fin

def numV (s : List UInt8) : Int := match Lib.atoiAll s with
  | .ok v => v
  | .range => Lib.atoiSat s
  | _ => 0
def numB (s : List UInt8) : Bool := match Lib.atoiAll s with
  | .ok v => decide (Lib.itoa v ≠ s)
  | _ => true
def refB (s : List UInt8) : Bool := s.isEmpty || decide (3 < s.length) || (decide (1 < s.length) && (s.head? == some 48))
def refV (s : List UInt8) : Int := if refB s then 0 else valD s
def prF : Fl := ⟨numV, numB, fun _ => false, fun s => s.isEmpty, false⟩
def rfF : Fl := ⟨refV, refB, fun s => !nameOk s, fun s => !nameOk s, true⟩

theorem run_all (p : UInt8 → Bool) : ∀ l : List UInt8, (run p l).all p = true
  | [] => rfl
  | a :: r => by
    unfold run
    cases h : p a
    · rw [List.takeWhile_cons_of_neg (by rw [h]; decide)]; rfl
    · rw [List.takeWhile_cons_of_pos h, List.all_cons, h]; exact run_all p r
theorem digit_of {c : UInt8} (h : digQ c = true) : 48 ≤ c.toNat ∧ c.toNat ≤ 57 := Off.digQ_iff.1 h
/-- digits are read as their number, if this is small enough -/
theorem uint_digits : ∀ (l : List UInt8) (acc : Nat), l.all digQ = true → (∃ u, Lib.parseUint10 acc l = .ok u ∧ u = l.foldl (fun x c => 10 * x + (c.toNat - 48)) acc) ∨ Lib.parseUint10 acc l = .range
  | [], acc, _ => .inl ⟨acc, rfl, rfl⟩
  | c :: r, acc, h => by
    rw [List.all_cons, Bool.and_eq_true] at h
    have h1 := digit_of h.1
    simp only [Lib.parseUint10]
    rw [if_pos h1]
    by_cases h2 : 1844674407370955162 ≤ acc
    · rw [if_pos h2]; exact .inr rfl
    · rw [if_neg h2]
      by_cases h3 : 18446744073709551616 ≤ acc * 10 + (c.toNat - 48)
      · rw [if_pos h3]; exact .inr rfl
      · rw [if_neg h3, List.foldl_cons, Nat.mul_comm 10 acc]
        exact uint_digits r _ h.2
theorem uint_small : ∀ (l : List UInt8) (acc : Nat), l.all digQ = true → (acc + 1) * 10 ^ l.length ≤ 1000000 → Lib.parseUint10 acc l = .ok (l.foldl (fun x c => 10 * x + (c.toNat - 48)) acc)
  | [], acc, _, _ => rfl
  | c :: r, acc, h, hs => by
    rw [List.all_cons, Bool.and_eq_true] at h
    have h1 := digit_of h.1
    rw [List.length_cons, Nat.pow_succ] at hs
    have h4 : (10 * acc + (c.toNat - 48) + 1) * 10 ^ r.length ≤ (acc + 1) * (10 ^ r.length * 10) := by
      rw [Nat.mul_comm (10 ^ r.length) 10, ← Nat.mul_assoc, Nat.mul_comm (acc + 1) 10]
      exact Nat.mul_le_mul_right _ (by omega)
    have h5 : 1 ≤ 10 ^ r.length := Nat.one_le_pow _ _ (by decide)
    have h6 : acc + 1 ≤ 1000000 := by
      have : (acc + 1) * 1 ≤ (acc + 1) * (10 ^ r.length * 10) := Nat.mul_le_mul_left _ (by omega)
      omega
    simp only [Lib.parseUint10]
    rw [if_pos h1, if_neg (by omega), if_neg (by omega), List.foldl_cons, Nat.mul_comm acc 10]
    exact uint_small r _ h.2 (by omega)
theorem atoi_digits (l : List UInt8) (h : l.all digQ = true) (hne : l ≠ []) : (∃ u : Nat, Lib.atoiAll l = .ok (u : Int) ∧ u = valD l) ∨ Lib.atoiAll l = .range := by
  obtain ⟨c, r, rfl⟩ := List.exists_cons_of_ne_nil hne
  have h1 := digit_of (show digQ c = true by rw [List.all_cons, Bool.and_eq_true] at h; exact h.1)
  have hm : Lib.parseMag (c :: r) = Lib.parseUint10 0 (c :: r) := by unfold Lib.parseMag; rw [if_neg (by simp)]
  unfold Lib.atoiAll
  dsimp only
  rw [if_neg (by omega), hm]
  rcases uint_digits (c :: r) 0 h with ⟨u, e, hu⟩ | e
  · rw [e]
    dsimp only
    by_cases hb : 9223372036854775808 ≤ u
    · rw [if_pos ⟨by omega, hb⟩]; exact .inr rfl
    · rw [if_neg (by omega), if_neg (by omega), if_neg (by omega)]; exact .inl ⟨u, rfl, hu⟩
  · rw [e]; exact .inr rfl
theorem atoi_small (l : List UInt8) (h : l.all digQ = true) (hne : l ≠ []) (h3 : l.length ≤ 3) : Lib.atoiAll l = .ok (valD l : Int) := by
  obtain ⟨c, r, rfl⟩ := List.exists_cons_of_ne_nil hne
  have h1 := digit_of (show digQ c = true by rw [List.all_cons, Bool.and_eq_true] at h; exact h.1)
  have hm : Lib.parseMag (c :: r) = Lib.parseUint10 0 (c :: r) := by unfold Lib.parseMag; rw [if_neg (by simp)]
  have hp : (0 + 1) * 10 ^ (c :: r).length ≤ 1000000 := by
    have := Nat.pow_le_pow_right (n := 10) (by decide) h3
    omega
  have hv := Off.valD_lt (c :: r) h
  have hl := Nat.pow_le_pow_right (n := 10) (by decide) h3
  unfold Lib.atoiAll
  dsimp only
  rw [if_neg (by omega), hm, uint_small _ 0 h hp]
  dsimp only
  rw [show List.foldl (fun x c => 10 * x + (UInt8.toNat c - 48)) 0 (c :: r) = valD (c :: r) from rfl, if_neg (by omega), if_neg (by omega), if_neg (by omega)]
theorem dec_valD : ∀ (l : List UInt8), l ≠ [] → l.all digQ = true → (l.head? ≠ some 48 ∨ l.length = 1) → Lib.decDigits (valD l) = l := by
  intro l
  induction h : l.length using Nat.strongRecOn generalizing l with
  | _ n ih =>
    intro hne ha hz
    have hc := List.dropLast_concat_getLast hne
    obtain ⟨q, c, hqc⟩ : ∃ q c, l = q ++ [c] := ⟨_, _, hc.symm⟩
    subst hqc
    rw [List.all_append, Bool.and_eq_true] at ha
    have hcd := digit_of (show digQ c = true by simpa using ha.2)
    rw [Off.valD_snoc]
    by_cases hq : q = []
    · subst hq
      rw [show valD [] = 0 from rfl, Lib.decDigits, dif_pos (by omega), show 48 + (10 * 0 + (c.toNat - 48)) = c.toNat by omega, UInt8.ofNat_toNat]
      rfl
    · have hh : q.head? ≠ some 48 := by
        rcases hz with hz | hz
        · intro e
          apply hz
          rw [List.head?_append, e]; rfl
        · exact absurd (List.length_eq_zero_iff.1 (by rw [List.length_append, List.length_singleton] at h; omega)) hq
      have hv : 1 ≤ valD q := by
        obtain ⟨a, r, rfl⟩ := List.exists_cons_of_ne_nil hq
        have hd := digit_of (show digQ a = true by have := ha.1; rw [List.all_cons, Bool.and_eq_true] at this; exact this.1)
        have ha48 : a.toNat ≠ 48 := fun e => hh (by rw [List.head?_cons, show a = 48 from UInt8.toNat_inj.1 e])
        have hle : ∀ (r : List UInt8) (x : Nat), x ≤ r.foldl (fun x c => 10 * x + (c.toNat - 48)) x := by
          intro r
          induction r with
          | nil => intro x; exact Nat.le_refl _
          | cons b r ih => intro x; rw [List.foldl_cons]; exact Nat.le_trans (by omega) (ih _)
        have := hle r (a.toNat - 48)
        have e : valD (a :: r) = r.foldl (fun x c => 10 * x + (c.toNat - 48)) (10 * 0 + (a.toNat - 48)) := rfl
        rw [e, show 10 * 0 + (a.toNat - 48) = a.toNat - 48 by omega]
        omega
      have := ih q.length (by rw [← h]; simp) q rfl hq ha.1 (.inl hh)
      rw [Lib.decDigits, dif_neg (by omega), show (10 * valD q + (c.toNat - 48)) / 10 = valD q by omega, this, show 48 + (10 * valD q + (c.toNat - 48)) % 10 = c.toNat by omega, UInt8.ofNat_toNat]
theorem refB_iff {s : List UInt8} : refB s = false ↔ s ≠ [] ∧ s.length ≤ 3 ∧ (s.head? ≠ some 48 ∨ s.length = 1) := by
  unfold refB
  cases s with
  | nil => simp
  | cons a r =>
    simp
    intro _
    constructor
    · intro h
      by_cases hr : r.length = 0
      · right; exact List.length_eq_zero_iff.1 hr
      · left; exact h (by omega)
    · rintro (h | h) hr
      · exact h
      · subst h; simp at hr
theorem num_good {s : List UInt8} (ha : s.all digQ = true) (h : refB s = false) : numB s = false ∧ numV s = refV s := by
  have hr := h
  rw [refB_iff] at h
  obtain ⟨h1, h2, h3⟩ := h
  have e := atoi_small s ha h1 h2
  unfold numB numV refV
  rw [e, hr]
  dsimp only
  refine ⟨?_, rfl⟩
  rw [Lib.itoa, if_neg (by omega), Int.toNat_natCast, dec_valD s h1 ha h3]
  simp
theorem u8_nat {k : Nat} (h : k < 256) : (UInt8.ofNat k).toNat = k := by simp [UInt8.toNat_ofNat', Nat.mod_eq_of_lt h]
theorem dec_digits (n : Nat) : (Lib.decDigits n).all digQ = true ∧ Lib.decDigits n ≠ [] ∧ ((Lib.decDigits n).head? ≠ some 48 ∨ (Lib.decDigits n).length = 1) := by
  induction n using Nat.strongRecOn with
  | _ n ih =>
    have hd : ∀ k, k < 10 → digQ (UInt8.ofNat (48 + k)) = true := by
      intro k hk
      rw [Off.digQ_iff, u8_nat (by omega)]; omega
    by_cases h : n < 10
    · rw [Lib.decDigits, dif_pos h]
      exact ⟨by rw [List.all_cons, hd n h]; rfl, by simp, .inr rfl⟩
    · obtain ⟨a, b, c⟩ := ih (n / 10) (by omega)
      rw [Lib.decDigits, dif_neg h]
      refine ⟨by rw [List.all_append, a, List.all_cons, hd (n % 10) (by omega)]; rfl, by simp, .inl ?_⟩
      rw [List.head?_append]
      by_cases h2 : n / 10 < 10
      · rw [Lib.decDigits, dif_pos h2, List.head?_cons]
        intro e
        have := congrArg UInt8.toNat (Option.some.inj (show some (UInt8.ofNat (48 + n / 10)) = some 48 from e))
        rw [u8_nat (by omega), show (48 : UInt8).toNat = 48 from rfl] at this
        omega
      · rcases c with c | c
        · cases hh : (Lib.decDigits (n / 10)).head? with
          | none => rw [List.head?_eq_none_iff] at hh; exact absurd hh b
          | some x => rw [hh] at c; simpa using c
        · rw [Lib.decDigits_length, Lib.nDigits_big h2] at c
          have := Lib.nDigits_pos (n / 10 / 10)
          omega
theorem num_bad {s : List UInt8} (ha : s.all digQ = true) (h : refB s = true) (hn : numB s = false) : 1000 ≤ numV s := by
  by_cases h1 : s = []
  · subst h1; exact absurd hn (by decide)
  · rcases atoi_digits s ha h1 with ⟨u, e, hu⟩ | e
    · unfold numB at hn
      unfold numV
      rw [e] at hn ⊢
      dsimp only at hn ⊢
      rw [Lib.itoa, if_neg (by omega), Int.toNat_natCast] at hn
      have hs : Lib.decDigits u = s := by simpa using hn
      obtain ⟨_, d2, d3⟩ := dec_digits u
      rw [hs] at d2 d3
      have h4 : 3 < s.length := by
        apply Classical.byContradiction
        intro h4
        rw [refB_iff.2 ⟨d2, by omega, d3⟩] at h
        cases h
      rw [← hs, Lib.decDigits_length] at h4
      have h5 : ¬ u < 10 := fun h => by rw [Lib.nDigits_small h] at h4; omega
      rw [Lib.nDigits_big h5] at h4
      have h6 : ¬ u / 10 < 10 := fun h => by rw [Lib.nDigits_small h] at h4; omega
      rw [Lib.nDigits_big h6] at h4
      have h7 : ¬ u / 10 / 10 < 10 := fun h => by rw [Lib.nDigits_small h] at h4; omega
      omega
    · unfold numB at hn
      rw [e] at hn
      cases hn
theorem v_good {l : List UInt8} (h : rfF.b l = false) : prF.b l = false ∧ prF.v l = rfF.v l := num_good (run_all _ _) h
theorem v_bad {l : List UInt8} (h : rfF.b l = true) (hn : prF.b l = false) : 1000 ≤ prF.v l := num_bad (run_all _ _) h hn
/-- the two readers at a date: one place; where the second one finds nothing wrong, neither does the first one, and the dates are the same; where only the second one does, the date is not right -/
theorem date_two (l : List UInt8) : (dateG prF l).l = (dateG rfF l).l ∧ ((dateG rfF l).b = false → (dateG prF l).b = false ∧ (dateG prF l).d = (dateG rfF l).d) ∧
    ((dateG rfF l).b = true → (dateG prF l).b = true ∨ (dateG prF l).d.ok = false) := by
  have hl : ∀ F, (headG F l).l = (headG prF l).l := by
    intro F
    unfold headG
    split
    · rfl
    · split <;> rfl
  have hk : ∀ F, (headG F l).kind = (headG prF l).kind := by
    intro F
    unfold headG
    split
    · rfl
    · split <;> rfl
  have hh : ((headG rfF l).b = false → (headG prF l).b = false ∧ (headG prF l).month = (headG rfF l).month ∧ (headG prF l).week = (headG rfF l).week) ∧
      ((headG rfF l).b = true → (headG prF l).b = true ∨ ((headG prF l).kind = 3 ∧ (1000 ≤ (headG prF l).month ∨ 1000 ≤ (headG prF l).week))) := by
    unfold headG
    split
    · exact ⟨fun _ => ⟨rfl, rfl, rfl⟩, fun h => by cases h⟩
    · split
      · dsimp only
        constructor
        · intro h
          simp only [Bool.or_eq_false_iff] at h ⊢
          obtain ⟨⟨⟨a, b⟩, c⟩, d⟩ := h
          exact ⟨⟨⟨⟨(v_good a).1, b⟩, (v_good c).1⟩, d⟩, (v_good a).2, (v_good c).2⟩
        · intro h
          cases ha : prF.b (l.drop 1)
          · cases hc : prF.b (nextR 46 (nuR (l.drop 1)))
            · cases hb : nextB 46 (nuR (l.drop 1))
              · left; rfl
              · cases hd : nextB 46 (nuR (nextR 46 (nuR (l.drop 1))))
                · left; rfl
                · right
                  refine ⟨rfl, ?_⟩
                  rw [hb, hd] at h
                  simp only [Bool.not_true, Bool.or_false, Bool.or_eq_true] at h
                  rcases h with h | h
                  · exact .inl (v_bad h ha)
                  · exact .inr (v_bad h hc)
            · left; simp
          · left; rfl
      · exact ⟨fun _ => ⟨rfl, rfl, rfl⟩, fun h => by cases h⟩
  have hkk : (headG prF l).kind = 1 ∨ (headG prF l).kind = 2 ∨ (headG prF l).kind = 3 := by
    unfold headG
    split
    · simp
    · split <;> simp
  unfold dateG
  rw [hl rfF, hk rfF]
  clear hl hk
  generalize headG prF l = A at *
  generalize headG rfF l = B at *
  obtain ⟨k, m, w, q, b⟩ := A
  obtain ⟨k', m', w', q', b'⟩ := B
  dsimp only at hh hkk ⊢
  obtain ⟨h1, h2⟩ := hh
  unfold timeG
  by_cases ht : nextB 47 (nuR q) = true
  · rw [if_pos ht, if_pos ht]
    refine ⟨rfl, ?_, ?_⟩
    · intro h
      simp only [Bool.or_eq_false_iff] at h ⊢
      obtain ⟨⟨a, b⟩, c⟩ := h
      obtain ⟨a1, a2, a3⟩ := h1 a
      exact ⟨⟨⟨a1, (v_good b).1⟩, c⟩, by rw [a2, a3, (v_good b).2]⟩
    · intro h
      dsimp only at h ⊢
      cases hs : scB ((nuR q).drop 1)
      · cases hb : b
        · cases hv : prF.b q
          · right
            rw [hs] at h
            simp only [Bool.or_false, Bool.or_eq_true] at h
            rw [Bool.eq_false_iff]
            intro hok
            rw [Dt.ok_iff] at hok
            dsimp only at hok
            rcases h with h | h
            · rcases h2 h with h3 | ⟨h3, h4⟩
              · rw [hb] at h3; cases h3
              · omega
            · have := v_bad h hv
              omega
          · left; simp
        · left; simp
      · left; simp
  · rw [if_neg ht, if_neg ht]
    refine ⟨rfl, ?_, ?_⟩
    · intro h
      simp only [Bool.or_eq_false_iff] at h ⊢
      obtain ⟨a, b⟩ := h
      obtain ⟨a1, a2, a3⟩ := h1 a
      exact ⟨⟨a1, (v_good b).1⟩, by rw [a2, a3, (v_good b).2]⟩
    · intro h
      dsimp only at h ⊢
      cases hb : b
      · cases hv : prF.b q
        · right
          simp only [Bool.or_eq_true] at h
          rw [Bool.eq_false_iff]
          intro hok
          rw [Dt.ok_iff] at hok
          dsimp only at hok
          rcases h with h | h
          · rcases h2 h with h3 | ⟨h3, h4⟩
            · rw [hb] at h3; cases h3
            · omega
          · have := v_bad h hv
            omega
        · left; simp
      · left; simp
theorem fin_eq {r r' : Pr} (hl : r.l = r'.l) (h1 : r'.b = false → r.b = false ∧ r.p = r'.p) (h2 : r'.b = true → r.b = true ∨ r.p.ok = false ∨ r.l ≠ []) : r.fin = r'.fin := by
  unfold Pr.fin Pr.bad
  cases hb : r'.b
  · obtain ⟨a, b⟩ := h1 hb
    rw [a, b, hl]
  · rw [Bool.true_or, Bool.true_or, if_pos rfl]
    rcases h2 hb with h | h | h
    · rw [h, Bool.true_or, Bool.true_or, if_pos rfl]
    · rw [h, Bool.not_false, Bool.or_true, if_pos rfl]
    · rw [show (!r.l.isEmpty) = true by simpa using h, Bool.or_true, Bool.true_or, if_pos rfl]
theorem ok_std {a : List UInt8} {o d : Int} {c : ByteArray} {x y : Dt} (h : nameOk a = false) : Pos.ok ⟨bs a, o, c, d, x, y⟩ = false := by
  unfold Pos.ok Pos.stdB
  dsimp only
  rw [bs_list, h]; rfl
theorem ok_dst {a c : List UInt8} {o d : Int} {x y : Dt} (hc : c ≠ []) (h : nameOk c = false ∨ x.ok = false ∨ y.ok = false) : Pos.ok ⟨bs a, o, bs c, d, x, y⟩ = false := by
  unfold Pos.ok Pos.dstB Pos.noneB noneQ
  dsimp only
  rw [bs_list, show (bs c).toList.isEmpty = false by rw [ByteArray.toList_eq, bs_list]; simpa using hc]
  rcases h with h | h | h
  all_goals rw [h]; simp
theorem dates_two (a : List UInt8) (o : Int) (c : List UInt8) (d : Int) (l : List UInt8) (b b' : Bool) (hb : b' = false → b = false) (hb2 : b' = true → b = true ∨ nameOk a = false ∨ nameOk c = false) (hc : b = false → c ≠ []) :
    (datesG prF a o c d l b).fin = (datesG rfF a o c d l b').fin := by
  obtain ⟨s1, s2, s3⟩ := date_two (nextR 44 l)
  have t := date_two (nextR 44 (dateG prF (nextR 44 l)).l)
  rw [s1] at t
  obtain ⟨t1, t2, t3⟩ := t
  unfold datesG
  rw [s1]
  refine fin_eq t1 ?_ ?_
  · intro h
    dsimp only at h ⊢
    simp only [Bool.or_eq_false_iff] at h ⊢
    obtain ⟨⟨⟨⟨x1, x2⟩, x3⟩, x4⟩, x5⟩ := h
    exact ⟨⟨⟨⟨⟨hb x1, x2⟩, (s2 x3).1⟩, x4⟩, (t2 x5).1⟩, by rw [(s2 x3).2, (t2 x5).2]⟩
  · intro h
    dsimp only at h ⊢
    cases hbb : b
    · have hcc := hc hbb
      simp only [Bool.or_eq_true] at h
      rcases h with (((h | h) | h) | h) | h
      · rcases hb2 h with h | h | h
        · rw [hbb] at h; cases h
        · exact .inr (.inl (ok_std h))
        · exact .inr (.inl (ok_dst hcc (.inl h)))
      · left; rw [h]; simp
      · rcases s3 h with h | h
        · left; rw [h]; simp
        · exact .inr (.inl (ok_dst hcc (.inr (.inl h))))
      · left; rw [h]; simp
      · rcases t3 h with h | h
        · left; rw [h]; simp
        · exact .inr (.inl (ok_dst hcc (.inr (.inr h))))
    · left; simp
theorem fin_bad {r : Pr} (h : r.b = true) : r.fin = (Pos.zero, 5) := by unfold Pr.fin Pr.bad; rw [h]; rfl
/-- the two readers agree -/
theorem parse_two (s : List UInt8) : (parseG prF s).fin = (parseG rfF s).fin := by
  unfold parseG
  have hmb : ∀ x, prF.mb x = false := fun _ => rfl
  have hmr : ∀ x, rfF.mb x = !nameOk x := fun _ => rfl
  have hdb : ∀ x, prF.db x = x.isEmpty := fun _ => rfl
  have hdr : ∀ x, rfF.db x = !nameOk x := fun _ => rfl
  have hne : ∀ x, nameOk x = true → x ≠ [] := by
    intro x h e; subst e; cases h
  by_cases h : (scR (nmR s)).isEmpty = true
  · rw [if_pos h, if_pos h, hmb, hmr]
    refine fin_eq rfl ?_ ?_
    · intro h
      dsimp only at h ⊢
      simp only [Bool.or_eq_false_iff] at h ⊢
      exact ⟨⟨⟨h.1.1, trivial⟩, h.2⟩, trivial⟩
    · intro h
      dsimp only at h ⊢
      simp only [Bool.or_eq_true] at h
      rcases h with (h | h) | h
      · left; rw [h]; simp
      · exact .inr (.inl (ok_std (by simpa using h)))
      · left; rw [h]; simp
  · rw [if_neg h, if_neg h, hmb, hmr, hdb, hdr]
    obtain ⟨a, ha⟩ : ∃ a, nmS s = a := ⟨_, rfl⟩
    obtain ⟨c, hc⟩ : ∃ c, nmS (scR (nmR s)) = c := ⟨_, rfl⟩
    obtain ⟨l, hl⟩ : ∃ l, nmR (scR (nmR s)) = l := ⟨_, rfl⟩
    rw [ha, hc, hl]
    have key : ∀ x : Bool, ((nmB s || !nameOk a || scB (nmR s) || nmB (scR (nmR s)) || !nameOk c || x) = false → (nmB s || false || scB (nmR s) || nmB (scR (nmR s)) || c.isEmpty || x) = false) ∧
        ((nmB s || !nameOk a || scB (nmR s) || nmB (scR (nmR s)) || !nameOk c || x) = true → (nmB s || false || scB (nmR s) || nmB (scR (nmR s)) || c.isEmpty || x) = true ∨ nameOk a = false ∨ nameOk c = false) ∧
        ((nmB s || false || scB (nmR s) || nmB (scR (nmR s)) || c.isEmpty || x) = false → c ≠ []) := by
      intro x
      refine ⟨?_, ?_, ?_⟩
      · intro h
        simp only [Bool.or_eq_false_iff] at h ⊢
        obtain ⟨⟨⟨⟨⟨x1, x2⟩, x3⟩, x4⟩, x5⟩, x6⟩ := h
        exact ⟨⟨⟨⟨⟨x1, trivial⟩, x3⟩, x4⟩, by simpa using hne c (by simpa using x5)⟩, x6⟩
      · intro h
        simp only [Bool.or_eq_true] at h ⊢
        rcases h with ((((h | h) | h) | h) | h) | h
        · left; simp [h]
        · right; left; simpa using h
        · left; simp [h]
        · left; simp [h]
        · right; right; simpa using h
        · left; simp [h]
      · intro h
        simp only [Bool.or_eq_false_iff] at h
        simpa using h.1.2
    unfold dstG
    cases hs : nextB 44 l
    · have hsp : skipG prF l = false := by unfold skipG; rw [hs]; rfl
      rw [hsp, if_neg (by decide)]
      by_cases he : l.isEmpty = true
      · have hsr : skipG rfF l = true := by unfold skipG; rw [hs, he]; rfl
        rw [hsr, if_pos rfl]
        obtain rfl : l = [] := by simpa using he
        have e0 : scB [] = true := by decide
        rw [fin_bad (by unfold datesG; dsimp only; rw [e0]; simp), fin_bad (by unfold datesG; dsimp only; rw [show nextB 44 [] = false from rfl]; simp)]
      · have hsr : skipG rfF l = false := by unfold skipG; rw [hs, show l.isEmpty = false by simpa using he]; rfl
        rw [hsr, if_neg (by decide)]
        obtain ⟨k1, k2, k3⟩ := key (scB l)
        exact dates_two a _ c _ _ _ _ k1 k2 k3
    · have hsp : skipG prF l = true := by unfold skipG; rw [hs]; rfl
      have hsr : skipG rfF l = true := by unfold skipG; rw [hs]; rfl
      rw [hsp, hsr, if_pos rfl, if_pos rfl]
      obtain ⟨k1, k2, k3⟩ := key false
      rw [Bool.or_false, Bool.or_false] at k1 k2
      rw [Bool.or_false] at k3
      exact dates_two a _ c _ _ _ _ k1 k2 k3
theorem fin_two (s : List UInt8) : finG prF s = finG rfF s := by unfold finG; rw [parse_two]
end Go.Proofs.YtgllbagmmpicaaaGreatDoor.Px
