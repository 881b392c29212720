/- TZ strings, the plain laws: what a string is read as, by two readers that agree. No program in sight. The functions analemmaref04.Parse and Print: amounts of time, read and printed. What the program's and the library's variables hold, and that they keep it. The methods run, next, want and name of posix.reader. The functions analemmaref04.Decimal, Two and Print. The function that offset.Parse makes: some digits from the front. -/
import Derived.Test.YtkpmmabdpeobaaaGreatDoorSU5
import Derived.Test.YtkpmmabdpeobaaaGreatDoorSU4
import Derived.Lib.AtoiAll
import Derived.Lib.ItoaNum
import Derived.Test.YtkpmmabdpeobaaaGreatDoorSU2
import Derived.Test.YtkpmmabdpeobaaaGreatDoorSShelf
import Derived.Deep.QuietTactic
import Derived.BigQuiet
import Derived.Outline
namespace Go.Proofs.YtkpmmabdpeobaaaGreatDoor.Px
open Off (run past digQ valD parseO)
open Go (Lib.NumEnd)
def nextB (c : UInt8) (l : List UInt8) : Bool := l.head? == some c
def nextR (c : UInt8) (l : List UInt8) : List UInt8 := if nextB c l then l.drop 1 else l
def nmP (l : List UInt8) : UInt8 → Bool := if nextB 60 l then inB else letC
def nmS (l : List UInt8) : List UInt8 := run (nmP l) (nextR 60 l)
def nmT (l : List UInt8) : List UInt8 := past (nmP l) (nextR 60 l)
def nmR (l : List UInt8) : List UInt8 := if nextB 60 l then nextR 62 (nmT l) else nmT l
def nmB (l : List UInt8) : Bool := nextB 60 l && !nextB 62 (nmT l)
def secQ (c : UInt8) : Bool := decide (c.toNat = 45) || decide (c.toNat = 58) || digQ c
def scR (l : List UInt8) : List UInt8 := past secQ l
def scV (l : List UInt8) : Int := (parseO (run secQ l)).1
def scB (l : List UInt8) : Bool := decide ((parseO (run secQ l)).2 ≠ 0)
def nuS (l : List UInt8) : List UInt8 := run digQ l
def nuR (l : List UInt8) : List UInt8 := past digQ l
structure Fl where
 nv : List UInt8 → Int
 nb : List UInt8 → Bool
 mb : List UInt8 → Bool
 db : List UInt8 → Bool
 g : Bool
def Fl.v (F : Fl) (l : List UInt8) : Int := F.nv (nuS l)
def Fl.b (F : Fl) (l : List UInt8) : Bool := F.nb (nuS l)
structure Hd where
 kind : Int
 month : Int
 week : Int
 l : List UInt8
 b : Bool
def headG (F : Fl) (l : List UInt8) : Hd :=
 if nextB 74 l then ⟨1, 0, 0, l.drop 1, false⟩
 else if nextB 77 l then
  ⟨3, F.v (l.drop 1), F.v (nextR 46 (nuR (l.drop 1))), nextR 46 (nuR (nextR 46 (nuR (l.drop 1)))),
   F.b (l.drop 1) || !nextB 46 (nuR (l.drop 1)) || F.b (nextR 46 (nuR (l.drop 1))) || !nextB 46 (nuR (nextR 46 (nuR (l.drop 1))))⟩
 else ⟨2, 0, 0, l, false⟩
structure Dr where
 d : Dt
 l : List UInt8
 b : Bool
def timeG (k d m w : Int) (l : List UInt8) (b : Bool) : Dr :=
 if nextB 47 l then ⟨⟨k, d, m, w, scV (l.drop 1)⟩, scR (l.drop 1), b || scB (l.drop 1)⟩ else ⟨⟨k, d, m, w, 7200⟩, l, b⟩
def dateG (F : Fl) (l : List UInt8) : Dr :=
 timeG (headG F l).kind (F.v (headG F l).l) (headG F l).month (headG F l).week (nuR (headG F l).l) ((headG F l).b || F.b (headG F l).l)
def bs (l : List UInt8) : ByteArray := ⟨l.toArray⟩
theorem bs_list (l : List UInt8) : (bs l).data.toList = l := rfl
def Pos.zero : Pos := ⟨bs [], 0, bs [], 0, Dt.zero, Dt.zero⟩
structure Pr where
 p : Pos
 l : List UInt8
 b : Bool
def skipG (F : Fl) (l : List UInt8) : Bool := nextB 44 l || (F.g && l.isEmpty)
def datesG (F : Fl) (a : List UInt8) (o : Int) (c : List UInt8) (d : Int) (l : List UInt8) (b : Bool) : Pr :=
 ⟨⟨bs a, o, bs c, d, (dateG F (nextR 44 l)).d, (dateG F (nextR 44 (dateG F (nextR 44 l)).l)).d⟩, (dateG F (nextR 44 (dateG F (nextR 44 l)).l)).l,
  b || !nextB 44 l || (dateG F (nextR 44 l)).b || !nextB 44 (dateG F (nextR 44 l)).l || (dateG F (nextR 44 (dateG F (nextR 44 l)).l)).b⟩
def dstG (F : Fl) (a : List UInt8) (o : Int) (c : List UInt8) (l : List UInt8) (b : Bool) : Pr :=
 if skipG F l then datesG F a o c (o + 3600) l b else datesG F a o c (-scV l) (scR l) (b || scB l)
def parseG (F : Fl) (s : List UInt8) : Pr :=
 if (scR (nmR s)).isEmpty then ⟨⟨bs (nmS s), -scV (nmR s), bs [], 0, Dt.zero, Dt.zero⟩, [], nmB s || F.mb (nmS s) || scB (nmR s)⟩
 else dstG F (nmS s) (-scV (nmR s)) (nmS (scR (nmR s))) (nmR (scR (nmR s))) (nmB s || F.mb (nmS s) || scB (nmR s) || nmB (scR (nmR s)) || F.db (nmS (scR (nmR s))))
def Pr.bad (r : Pr) : Bool := r.b || !r.l.isEmpty || !r.p.ok
def Pr.fin (r : Pr) : Pos × Int := if r.bad then (Pos.zero, 5) else (r.p, 0)
def finG (F : Fl) (s : List UInt8) : Pos × Int := if 100 < s.length then (Pos.zero, 6) else (parseG F s).fin
def numV (s : List UInt8) : Int := match Lib.atoiAll s with
 | .ok v => v
 | .range => Lib.atoiSat s
 | _ => 0
def numB (s : List UInt8) : Bool := match Lib.atoiAll s with
 | .ok v => decide (Lib.itoa v ≠ s)
 | _ => true
def refB (s : List UInt8) : Bool := s.isEmpty || decide (3 < s.length) || (decide (1 < s.length) && (s.head? == some 48))
def refV (s : List UInt8) : Int := if refB s then 0 else valD s
def prF : Fl := ⟨numV, numB, fun _ => false, fun s => s.isEmpty, false⟩
def rfF : Fl := ⟨refV, refB, fun s => !nameOk s, fun s => !nameOk s, true⟩
theorem run_all (p : UInt8 → Bool) : ∀ l : List UInt8, (run p l).all p = true
 | [] => rfl
 | a :: r => by
   unfold run
   cases h : p a
   · rw [List.takeWhile_cons_of_neg (by rw [h]; decide)]; rfl
   · rw [List.takeWhile_cons_of_pos h, List.all_cons, h]; exact run_all p r
theorem digit_of {c : UInt8} (h : digQ c = true) : 48 ≤ c.toNat ∧ c.toNat ≤ 57 := Off.digQ_iff.1 h
theorem uint_digits : ∀ (l : List UInt8) (acc : Nat), l.all digQ = true → (∃ u, Lib.parseUint10 acc l = .ok u ∧ u = l.foldl (fun x c => 10 * x + (c.toNat - 48)) acc) ∨ Lib.parseUint10 acc l = .range
 | [], acc, _ => .inl ⟨acc, rfl, rfl⟩
 | c :: r, acc, h => by
   rw [List.all_cons, Bool.and_eq_true] at h
   have h1 := digit_of h.1
   simp only [Lib.parseUint10]
   rw [if_pos h1]
   by_cases h2 : 1844674407370955162 ≤ acc
   · rw [if_pos h2]; exact .inr rfl
   · rw [if_neg h2]
     by_cases h3 : 18446744073709551616 ≤ acc * 10 + (c.toNat - 48)
     · rw [if_pos h3]; exact .inr rfl
     · rw [if_neg h3, List.foldl_cons, Nat.mul_comm 10 acc]
       exact uint_digits r _ h.2
theorem uint_small : ∀ (l : List UInt8) (acc : Nat), l.all digQ = true → (acc + 1) * 10 ^ l.length ≤ 1000000 → Lib.parseUint10 acc l = .ok (l.foldl (fun x c => 10 * x + (c.toNat - 48)) acc)
 | [], acc, _, _ => rfl
 | c :: r, acc, h, hs => by
   rw [List.all_cons, Bool.and_eq_true] at h
   have h1 := digit_of h.1
   rw [List.length_cons, Nat.pow_succ] at hs
   have h4 : (10 * acc + (c.toNat - 48) + 1) * 10 ^ r.length ≤ (acc + 1) * (10 ^ r.length * 10) := by
    rw [Nat.mul_comm (10 ^ r.length) 10, ← Nat.mul_assoc, Nat.mul_comm (acc + 1) 10]
    exact Nat.mul_le_mul_right _ (by omega)
   have h5 : 1 ≤ 10 ^ r.length := Nat.one_le_pow _ _ (by decide)
   have h6 : acc + 1 ≤ 1000000 := by
    have : (acc + 1) * 1 ≤ (acc + 1) * (10 ^ r.length * 10) := Nat.mul_le_mul_left _ (by omega)
    omega
   simp only [Lib.parseUint10]
   rw [if_pos h1, if_neg (by omega), if_neg (by omega), List.foldl_cons, Nat.mul_comm acc 10]
   exact uint_small r _ h.2 (by omega)
theorem atoi_digits (l : List UInt8) (h : l.all digQ = true) (hne : l ≠ []) : (∃ u : Nat, Lib.atoiAll l = .ok (u : Int) ∧ u = valD l) ∨ Lib.atoiAll l = .range := by
 obtain ⟨c, r, rfl⟩ := List.exists_cons_of_ne_nil hne
 have h1 := digit_of (show digQ c = true by rw [List.all_cons, Bool.and_eq_true] at h; exact h.1)
 have hm : Lib.parseMag (c :: r) = Lib.parseUint10 0 (c :: r) := by unfold Lib.parseMag; rw [if_neg (by simp)]
 unfold Lib.atoiAll
 dsimp only
 rw [if_neg (by omega), hm]
 rcases uint_digits (c :: r) 0 h with ⟨u, e, hu⟩ | e
 · rw [e]
   dsimp only
   by_cases hb : 9223372036854775808 ≤ u
   · rw [if_pos ⟨by omega, hb⟩]; exact .inr rfl
   · rw [if_neg (by omega), if_neg (by omega), if_neg (by omega)]; exact .inl ⟨u, rfl, hu⟩
 · rw [e]; exact .inr rfl
theorem atoi_small (l : List UInt8) (h : l.all digQ = true) (hne : l ≠ []) (h3 : l.length ≤ 3) : Lib.atoiAll l = .ok (valD l : Int) := by
 obtain ⟨c, r, rfl⟩ := List.exists_cons_of_ne_nil hne
 have h1 := digit_of (show digQ c = true by rw [List.all_cons, Bool.and_eq_true] at h; exact h.1)
 have hm : Lib.parseMag (c :: r) = Lib.parseUint10 0 (c :: r) := by unfold Lib.parseMag; rw [if_neg (by simp)]
 have hp : (0 + 1) * 10 ^ (c :: r).length ≤ 1000000 := by
  have := Nat.pow_le_pow_right (n := 10) (by decide) h3
  omega
 have hv := Off.valD_lt (c :: r) h
 have hl := Nat.pow_le_pow_right (n := 10) (by decide) h3
 unfold Lib.atoiAll
 dsimp only
 rw [if_neg (by omega), hm, uint_small _ 0 h hp]
 dsimp only
 rw [show List.foldl (fun x c => 10 * x + (UInt8.toNat c - 48)) 0 (c :: r) = valD (c :: r) from rfl, if_neg (by omega), if_neg (by omega), if_neg (by omega)]
theorem dec_valD : ∀ (l : List UInt8), l ≠ [] → l.all digQ = true → (l.head? ≠ some 48 ∨ l.length = 1) → Lib.decDigits (valD l) = l := by
 intro l
 induction h : l.length using Nat.strongRecOn generalizing l with
 | _ n ih =>
   intro hne ha hz
   have hc := List.dropLast_concat_getLast hne
   obtain ⟨q, c, hqc⟩ : ∃ q c, l = q ++ [c] := ⟨_, _, hc.symm⟩
   subst hqc
   rw [List.all_append, Bool.and_eq_true] at ha
   have hcd := digit_of (show digQ c = true by simpa using ha.2)
   rw [Off.valD_snoc]
   by_cases hq : q = []
   · subst hq
     rw [show valD [] = 0 from rfl, Lib.decDigits, dif_pos (by omega), show 48 + (10 * 0 + (c.toNat - 48)) = c.toNat by omega, UInt8.ofNat_toNat]
     rfl
   · have hh : q.head? ≠ some 48 := by
       rcases hz with hz | hz
       · intro e
         apply hz
         rw [List.head?_append, e]; rfl
       · exact absurd (List.length_eq_zero_iff.1 (by rw [List.length_append, List.length_singleton] at h; omega)) hq
     have hv : 1 ≤ valD q := by
      obtain ⟨a, r, rfl⟩ := List.exists_cons_of_ne_nil hq
      have hd := digit_of (show digQ a = true by have := ha.1; rw [List.all_cons, Bool.and_eq_true] at this; exact this.1)
      have ha48 : a.toNat ≠ 48 := fun e => hh (by rw [List.head?_cons, show a = 48 from UInt8.toNat_inj.1 e])
      have hle : ∀ (r : List UInt8) (x : Nat), x ≤ r.foldl (fun x c => 10 * x + (c.toNat - 48)) x := by
       intro r
       induction r with
       | nil => intro x; exact Nat.le_refl _
       | cons b r ih => intro x; rw [List.foldl_cons]; exact Nat.le_trans (by omega) (ih _)
      have := hle r (a.toNat - 48)
      have e : valD (a :: r) = r.foldl (fun x c => 10 * x + (c.toNat - 48)) (10 * 0 + (a.toNat - 48)) := rfl
      rw [e, show 10 * 0 + (a.toNat - 48) = a.toNat - 48 by omega]
      omega
     have := ih q.length (by rw [← h]; simp) q rfl hq ha.1 (.inl hh)
     rw [Lib.decDigits, dif_neg (by omega), show (10 * valD q + (c.toNat - 48)) / 10 = valD q by omega, this, show 48 + (10 * valD q + (c.toNat - 48)) % 10 = c.toNat by omega, UInt8.ofNat_toNat]
theorem refB_iff {s : List UInt8} : refB s = false ↔ s ≠ [] ∧ s.length ≤ 3 ∧ (s.head? ≠ some 48 ∨ s.length = 1) := by
 unfold refB
 cases s with
 | nil => simp
 | cons a r =>
   simp
   intro _
   constructor
   · intro h
     by_cases hr : r.length = 0
     · right; exact List.length_eq_zero_iff.1 hr
     · left; exact h (by omega)
   · rintro (h | h) hr
     · exact h
     · subst h; simp at hr
theorem num_good {s : List UInt8} (ha : s.all digQ = true) (h : refB s = false) : numB s = false ∧ numV s = refV s := by
 have hr := h
 rw [refB_iff] at h
 obtain ⟨h1, h2, h3⟩ := h
 have e := atoi_small s ha h1 h2
 unfold numB numV refV
 rw [e, hr]
 dsimp only
 refine ⟨?_, rfl⟩
 rw [Lib.itoa, if_neg (by omega), Int.toNat_natCast, dec_valD s h1 ha h3]
 simp
theorem u8_nat {k : Nat} (h : k < 256) : (UInt8.ofNat k).toNat = k := by simp [UInt8.toNat_ofNat', Nat.mod_eq_of_lt h]
theorem dec_digits (n : Nat) : (Lib.decDigits n).all digQ = true ∧ Lib.decDigits n ≠ [] ∧ ((Lib.decDigits n).head? ≠ some 48 ∨ (Lib.decDigits n).length = 1) := by
 induction n using Nat.strongRecOn with
 | _ n ih =>
   have hd : ∀ k, k < 10 → digQ (UInt8.ofNat (48 + k)) = true := by
    intro k hk
    rw [Off.digQ_iff, u8_nat (by omega)]; omega
   by_cases h : n < 10
   · rw [Lib.decDigits, dif_pos h]
     exact ⟨by rw [List.all_cons, hd n h]; rfl, by simp, .inr rfl⟩
   · obtain ⟨a, b, c⟩ := ih (n / 10) (by omega)
     rw [Lib.decDigits, dif_neg h]
     refine ⟨by rw [List.all_append, a, List.all_cons, hd (n % 10) (by omega)]; rfl, by simp, .inl ?_⟩
     rw [List.head?_append]
     by_cases h2 : n / 10 < 10
     · rw [Lib.decDigits, dif_pos h2, List.head?_cons]
       intro e
       have := congrArg UInt8.toNat (Option.some.inj (show some (UInt8.ofNat (48 + n / 10)) = some 48 from e))
       rw [u8_nat (by omega), show (48 : UInt8).toNat = 48 from rfl] at this
       omega
     · rcases c with c | c
       · cases hh : (Lib.decDigits (n / 10)).head? with
         | none => rw [List.head?_eq_none_iff] at hh; exact absurd hh b
         | some x => rw [hh] at c; simpa using c
       · rw [Lib.decDigits_length, Lib.nDigits_big h2] at c
         have := Lib.nDigits_pos (n / 10 / 10)
         omega
theorem num_bad {s : List UInt8} (ha : s.all digQ = true) (h : refB s = true) (hn : numB s = false) : 1000 ≤ numV s := by
 by_cases h1 : s = []
 · subst h1; exact absurd hn (by decide)
 · rcases atoi_digits s ha h1 with ⟨u, e, hu⟩ | e
   · unfold numB at hn
     unfold numV
     rw [e] at hn ⊢
     dsimp only at hn ⊢
     rw [Lib.itoa, if_neg (by omega), Int.toNat_natCast] at hn
     have hs : Lib.decDigits u = s := by simpa using hn
     obtain ⟨_, d2, d3⟩ := dec_digits u
     rw [hs] at d2 d3
     have h4 : 3 < s.length := by
      apply Classical.byContradiction
      intro h4
      rw [refB_iff.2 ⟨d2, by omega, d3⟩] at h
      cases h
     rw [← hs, Lib.decDigits_length] at h4
     have h5 : ¬ u < 10 := fun h => by rw [Lib.nDigits_small h] at h4; omega
     rw [Lib.nDigits_big h5] at h4
     have h6 : ¬ u / 10 < 10 := fun h => by rw [Lib.nDigits_small h] at h4; omega
     rw [Lib.nDigits_big h6] at h4
     have h7 : ¬ u / 10 / 10 < 10 := fun h => by rw [Lib.nDigits_small h] at h4; omega
     omega
   · unfold numB at hn
     rw [e] at hn
     cases hn
theorem v_good {l : List UInt8} (h : rfF.b l = false) : prF.b l = false ∧ prF.v l = rfF.v l := num_good (run_all _ _) h
theorem v_bad {l : List UInt8} (h : rfF.b l = true) (hn : prF.b l = false) : 1000 ≤ prF.v l := num_bad (run_all _ _) h hn
theorem date_two (l : List UInt8) : (dateG prF l).l = (dateG rfF l).l ∧ ((dateG rfF l).b = false → (dateG prF l).b = false ∧ (dateG prF l).d = (dateG rfF l).d) ∧
 ((dateG rfF l).b = true → (dateG prF l).b = true ∨ (dateG prF l).d.ok = false) := by
 have hl : ∀ F, (headG F l).l = (headG prF l).l := by
  intro F
  unfold headG
  split
  · rfl
  · split <;> rfl
 have hk : ∀ F, (headG F l).kind = (headG prF l).kind := by
  intro F
  unfold headG
  split
  · rfl
  · split <;> rfl
 have hh : ((headG rfF l).b = false → (headG prF l).b = false ∧ (headG prF l).month = (headG rfF l).month ∧ (headG prF l).week = (headG rfF l).week) ∧
  ((headG rfF l).b = true → (headG prF l).b = true ∨ ((headG prF l).kind = 3 ∧ (1000 ≤ (headG prF l).month ∨ 1000 ≤ (headG prF l).week))) := by
  unfold headG
  split
  · exact ⟨fun _ => ⟨rfl, rfl, rfl⟩, fun h => by cases h⟩
  · split
    · dsimp only
      constructor
      · intro h
        simp only [Bool.or_eq_false_iff] at h ⊢
        obtain ⟨⟨⟨a, b⟩, c⟩, d⟩ := h
        exact ⟨⟨⟨⟨(v_good a).1, b⟩, (v_good c).1⟩, d⟩, (v_good a).2, (v_good c).2⟩
      · intro h
        cases ha : prF.b (l.drop 1)
        · cases hc : prF.b (nextR 46 (nuR (l.drop 1)))
          · cases hb : nextB 46 (nuR (l.drop 1))
            · left; rfl
            · cases hd : nextB 46 (nuR (nextR 46 (nuR (l.drop 1))))
              · left; rfl
              · right
                refine ⟨rfl, ?_⟩
                rw [hb, hd] at h
                simp only [Bool.not_true, Bool.or_false, Bool.or_eq_true] at h
                rcases h with h | h
                · exact .inl (v_bad h ha)
                · exact .inr (v_bad h hc)
          · left; simp
        · left; rfl
    · exact ⟨fun _ => ⟨rfl, rfl, rfl⟩, fun h => by cases h⟩
 have hkk : (headG prF l).kind = 1 ∨ (headG prF l).kind = 2 ∨ (headG prF l).kind = 3 := by
  unfold headG
  split
  · simp
  · split <;> simp
 unfold dateG
 rw [hl rfF, hk rfF]
 clear hl hk
 generalize headG prF l = A at *
 generalize headG rfF l = B at *
 obtain ⟨k, m, w, q, b⟩ := A
 obtain ⟨k', m', w', q', b'⟩ := B
 dsimp only at hh hkk ⊢
 obtain ⟨h1, h2⟩ := hh
 unfold timeG
 by_cases ht : nextB 47 (nuR q) = true
 · rw [if_pos ht, if_pos ht]
   refine ⟨rfl, ?_, ?_⟩
   · intro h
     simp only [Bool.or_eq_false_iff] at h ⊢
     obtain ⟨⟨a, b⟩, c⟩ := h
     obtain ⟨a1, a2, a3⟩ := h1 a
     exact ⟨⟨⟨a1, (v_good b).1⟩, c⟩, by rw [a2, a3, (v_good b).2]⟩
   · intro h
     dsimp only at h ⊢
     cases hs : scB ((nuR q).drop 1)
     · cases hb : b
       · cases hv : prF.b q
         · right
           rw [hs] at h
           simp only [Bool.or_false, Bool.or_eq_true] at h
           rw [Bool.eq_false_iff]
           intro hok
           rw [Dt.ok_iff] at hok
           dsimp only at hok
           rcases h with h | h
           · rcases h2 h with h3 | ⟨h3, h4⟩
             · rw [hb] at h3; cases h3
             · omega
           · have := v_bad h hv
             omega
         · left; simp
       · left; simp
     · left; simp
 · rw [if_neg ht, if_neg ht]
   refine ⟨rfl, ?_, ?_⟩
   · intro h
     simp only [Bool.or_eq_false_iff] at h ⊢
     obtain ⟨a, b⟩ := h
     obtain ⟨a1, a2, a3⟩ := h1 a
     exact ⟨⟨a1, (v_good b).1⟩, by rw [a2, a3, (v_good b).2]⟩
   · intro h
     dsimp only at h ⊢
     cases hb : b
     · cases hv : prF.b q
       · right
         simp only [Bool.or_eq_true] at h
         rw [Bool.eq_false_iff]
         intro hok
         rw [Dt.ok_iff] at hok
         dsimp only at hok
         rcases h with h | h
         · rcases h2 h with h3 | ⟨h3, h4⟩
           · rw [hb] at h3; cases h3
           · omega
         · have := v_bad h hv
           omega
       · left; simp
     · left; simp
theorem fin_eq {r r' : Pr} (hl : r.l = r'.l) (h1 : r'.b = false → r.b = false ∧ r.p = r'.p) (h2 : r'.b = true → r.b = true ∨ r.p.ok = false ∨ r.l ≠ []) : r.fin = r'.fin := by
 unfold Pr.fin Pr.bad
 cases hb : r'.b
 · obtain ⟨a, b⟩ := h1 hb
   rw [a, b, hl]
 · rw [Bool.true_or, Bool.true_or, if_pos rfl]
   rcases h2 hb with h | h | h
   · rw [h, Bool.true_or, Bool.true_or, if_pos rfl]
   · rw [h, Bool.not_false, Bool.or_true, if_pos rfl]
   · rw [show (!r.l.isEmpty) = true by simpa using h, Bool.or_true, Bool.true_or, if_pos rfl]
theorem ok_std {a : List UInt8} {o d : Int} {c : ByteArray} {x y : Dt} (h : nameOk a = false) : Pos.ok ⟨bs a, o, c, d, x, y⟩ = false := by
 unfold Pos.ok Pos.stdB
 dsimp only
 rw [bs_list, h]; rfl
theorem ok_dst {a c : List UInt8} {o d : Int} {x y : Dt} (hc : c ≠ []) (h : nameOk c = false ∨ x.ok = false ∨ y.ok = false) : Pos.ok ⟨bs a, o, bs c, d, x, y⟩ = false := by
 unfold Pos.ok Pos.dstB Pos.noneB noneQ
 dsimp only
 rw [bs_list, show (bs c).toList.isEmpty = false by rw [ByteArray.toList_eq, bs_list]; simpa using hc]
 rcases h with h | h | h
 all_goals rw [h]; simp
theorem dates_two (a : List UInt8) (o : Int) (c : List UInt8) (d : Int) (l : List UInt8) (b b' : Bool) (hb : b' = false → b = false) (hb2 : b' = true → b = true ∨ nameOk a = false ∨ nameOk c = false) (hc : b = false → c ≠ []) :
 (datesG prF a o c d l b).fin = (datesG rfF a o c d l b').fin := by
 obtain ⟨s1, s2, s3⟩ := date_two (nextR 44 l)
 have t := date_two (nextR 44 (dateG prF (nextR 44 l)).l)
 rw [s1] at t
 obtain ⟨t1, t2, t3⟩ := t
 unfold datesG
 rw [s1]
 refine fin_eq t1 ?_ ?_
 · intro h
   dsimp only at h ⊢
   simp only [Bool.or_eq_false_iff] at h ⊢
   obtain ⟨⟨⟨⟨x1, x2⟩, x3⟩, x4⟩, x5⟩ := h
   exact ⟨⟨⟨⟨⟨hb x1, x2⟩, (s2 x3).1⟩, x4⟩, (t2 x5).1⟩, by rw [(s2 x3).2, (t2 x5).2]⟩
 · intro h
   dsimp only at h ⊢
   cases hbb : b
   · have hcc := hc hbb
     simp only [Bool.or_eq_true] at h
     rcases h with (((h | h) | h) | h) | h
     · rcases hb2 h with h | h | h
       · rw [hbb] at h; cases h
       · exact .inr (.inl (ok_std h))
       · exact .inr (.inl (ok_dst hcc (.inl h)))
     · left; rw [h]; simp
     · rcases s3 h with h | h
       · left; rw [h]; simp
       · exact .inr (.inl (ok_dst hcc (.inr (.inl h))))
     · left; rw [h]; simp
     · rcases t3 h with h | h
       · left; rw [h]; simp
       · exact .inr (.inl (ok_dst hcc (.inr (.inr h))))
   · left; simp
theorem fin_bad {r : Pr} (h : r.b = true) : r.fin = (Pos.zero, 5) := by unfold Pr.fin Pr.bad; rw [h]; rfl
theorem parse_two (s : List UInt8) : (parseG prF s).fin = (parseG rfF s).fin := by
 unfold parseG
 have hmb : ∀ x, prF.mb x = false := fun _ => rfl
 have hmr : ∀ x, rfF.mb x = !nameOk x := fun _ => rfl
 have hdb : ∀ x, prF.db x = x.isEmpty := fun _ => rfl
 have hdr : ∀ x, rfF.db x = !nameOk x := fun _ => rfl
 have hne : ∀ x, nameOk x = true → x ≠ [] := by
  intro x h e; subst e; cases h
 by_cases h : (scR (nmR s)).isEmpty = true
 · rw [if_pos h, if_pos h, hmb, hmr]
   refine fin_eq rfl ?_ ?_
   · intro h
     dsimp only at h ⊢
     simp only [Bool.or_eq_false_iff] at h ⊢
     exact ⟨⟨⟨h.1.1, trivial⟩, h.2⟩, trivial⟩
   · intro h
     dsimp only at h ⊢
     simp only [Bool.or_eq_true] at h
     rcases h with (h | h) | h
     · left; rw [h]; simp
     · exact .inr (.inl (ok_std (by simpa using h)))
     · left; rw [h]; simp
 · rw [if_neg h, if_neg h, hmb, hmr, hdb, hdr]
   obtain ⟨a, ha⟩ : ∃ a, nmS s = a := ⟨_, rfl⟩
   obtain ⟨c, hc⟩ : ∃ c, nmS (scR (nmR s)) = c := ⟨_, rfl⟩
   obtain ⟨l, hl⟩ : ∃ l, nmR (scR (nmR s)) = l := ⟨_, rfl⟩
   rw [ha, hc, hl]
   have key : ∀ x : Bool, ((nmB s || !nameOk a || scB (nmR s) || nmB (scR (nmR s)) || !nameOk c || x) = false → (nmB s || false || scB (nmR s) || nmB (scR (nmR s)) || c.isEmpty || x) = false) ∧
    ((nmB s || !nameOk a || scB (nmR s) || nmB (scR (nmR s)) || !nameOk c || x) = true → (nmB s || false || scB (nmR s) || nmB (scR (nmR s)) || c.isEmpty || x) = true ∨ nameOk a = false ∨ nameOk c = false) ∧
    ((nmB s || false || scB (nmR s) || nmB (scR (nmR s)) || c.isEmpty || x) = false → c ≠ []) := by
    intro x
    refine ⟨?_, ?_, ?_⟩
    · intro h
      simp only [Bool.or_eq_false_iff] at h ⊢
      obtain ⟨⟨⟨⟨⟨x1, x2⟩, x3⟩, x4⟩, x5⟩, x6⟩ := h
      exact ⟨⟨⟨⟨⟨x1, trivial⟩, x3⟩, x4⟩, by simpa using hne c (by simpa using x5)⟩, x6⟩
    · intro h
      simp only [Bool.or_eq_true] at h ⊢
      rcases h with ((((h | h) | h) | h) | h) | h
      · left; simp [h]
      · right; left; simpa using h
      · left; simp [h]
      · left; simp [h]
      · right; right; simpa using h
      · left; simp [h]
    · intro h
      simp only [Bool.or_eq_false_iff] at h
      simpa using h.1.2
   unfold dstG
   cases hs : nextB 44 l
   · have hsp : skipG prF l = false := by unfold skipG; rw [hs]; rfl
     rw [hsp, if_neg (by decide)]
     by_cases he : l.isEmpty = true
     · have hsr : skipG rfF l = true := by unfold skipG; rw [hs, he]; rfl
       rw [hsr, if_pos rfl]
       obtain rfl : l = [] := by simpa using he
       have e0 : scB [] = true := by decide
       rw [fin_bad (by unfold datesG; dsimp only; rw [e0]; simp), fin_bad (by unfold datesG; dsimp only; rw [show nextB 44 [] = false from rfl]; simp)]
     · have hsr : skipG rfF l = false := by unfold skipG; rw [hs, show l.isEmpty = false by simpa using he]; rfl
       rw [hsr, if_neg (by decide)]
       obtain ⟨k1, k2, k3⟩ := key (scB l)
       exact dates_two a _ c _ _ _ _ k1 k2 k3
   · have hsp : skipG prF l = true := by unfold skipG; rw [hs]; rfl
     have hsr : skipG rfF l = true := by unfold skipG; rw [hs]; rfl
     rw [hsp, hsr, if_pos rfl, if_pos rfl]
     obtain ⟨k1, k2, k3⟩ := key false
     rw [Bool.or_false, Bool.or_false] at k1 k2
     rw [Bool.or_false] at k3
     exact dates_two a _ c _ _ _ _ k1 k2 k3
theorem fin_two (s : List UInt8) : finG prF s = finG rfF s := by unfold finG; rw [parse_two]
end Go.Proofs.YtkpmmabdpeobaaaGreatDoor.Px
namespace Go.Proofs.YtkpmmabdpeobaaaGreatDoor.Off
open Go.RowKit
open Civ
open Px (len_list)
def parsePost (l : List UInt8) (w : World) (e : Ending) (w' : World) : Prop := e = .returned (.tuple #[.int .i64 (parseO l).1, .int .i64 (parseO l).2]) ∧ Below w.heap.size w w'
theorem parse_post {l : List UInt8} {w w' : World} {x y : Value} {a b : Int} (h : parseO l = (a, b)) (hx : x = .int .i64 a) (hy : y = .int .i64 b) (hB : Below w.heap.size w w') : parsePost l w (.returned (.tuple #[x, y])) w' := by
 unfold parsePost
 rw [h, hx, hy]
 exact ⟨rfl, hB⟩
theorem formR_bd (l : List UInt8) : 0 ≤ (formR l).1 ∧ (formR l).1 ≤ 4000000 := by
 unfold formR
 cases h : formL l with
 | none => exact ⟨Int.le_refl _, by decide⟩
 | some x =>
   refine ⟨Int.natCast_nonneg _, ?_⟩
   rw [formL_eq] at h
   by_cases hc : run digQ l = [] ∨ 3 < (run digQ l).length ∨ (1 < (run digQ l).length ∧ (run digQ l).headD 0 = 48)
   · rw [if_pos hc] at h; cases h
   · rw [if_neg hc] at h
     have hl : (run digQ l).length ≤ 3 := by omega
     have hall : (run digQ l).all digQ = true := by
      unfold run
      exact List.all_eq_true.2 (fun c hc => Px.takeWhile_all _ c hc)
     have hv := valD_lt _ hall
     have hp := Nat.pow_le_pow_right (n := 10) (by decide) hl
     have ht : ∀ q y, tailL q = some y → y ≤ 3599 := by
      intro q y hq
      unfold tailL at hq
      split at hq
      · cases hq; omega
      · split at hq
        · split at hq
          · cases hq
          · rename_i h1
            have := (pairL_some h1).2.2
            cases hq; omega
          · rename_i h1
            have h1' := (pairL_some h1).2.2
            split at hq
            · split at hq
              · rename_i h2
                have := (pairL_some h2).2.2
                cases hq; omega
              · cases hq
            · cases hq
        · cases hq
     cases ht2 : tailL (past digQ l) with
     | none => rw [ht2] at h; cases h
     | some y =>
       rw [ht2] at h
       have := ht _ _ ht2
       simp only [Option.some.injEq] at h
       dsimp only
       omega
theorem parseO_no {l : List UInt8} (h : formL (if l.headD 0 = 45 then l.drop 1 else l) = none) : parseO l = (0, 5) := by
 unfold parseO; dsimp only; rw [h]
theorem parseO_some {l : List UInt8} {x : Nat} (h : formL (if l.headD 0 = 45 then l.drop 1 else l) = some x) : parseO l = if l.headD 0 = 45 ∧ x = 0 then (0, 5) else if 604799 < x then (0, 3) else if l.headD 0 = 45 then (-(x : Int), 0) else ((x : Int), 0) := by
 unfold parseO; dsimp only; rw [h]
theorem formR_cases (l : List UInt8) : (formL l = none ∧ formR l = (0, false)) ∨ ∃ x : Nat, formL l = some x ∧ formR l = ((x : Int), true) ∧ x ≤ 4000000 := by
 have hb := formR_bd l
 unfold formR at *
 cases h : formL l with
 | none => exact .inl ⟨rfl, rfl⟩
 | some x => rw [h] at hb; dsimp only at hb; exact .inr ⟨x, rfl, rfl, by omega⟩
theorem headD_zero (s : ByteArray) (h : 0 < s.size) : s.data.toList.headD 0 = s[0] := by
 have := drop_one s 0 h
 rw [List.drop_zero] at this
 rw [this]; rfl
set_option maxHeartbeats 2000000 in
theorem ref_parse (s : ByteArray) (hs : s.size ≤ 1000000) (w : World) :
 Calls Tryz.prog 120 #[.string s] w (parsePost s.data.toList w) := by
 by_cases hm : ∃ h : 0 < s.size, s[0] = 45
 · obtain ⟨h0, h45⟩ := hm
   have hh : s.data.toList.headD 0 = 45 := by rw [headD_zero s h0, h45]
   have i0 : (0 : Int) < (s.size : Int) := by omega
   have t0 : ((s[0].toNat : Int) == 45) = true := by rw [h45]; rfl
   have i1 : (1 : Int) ≤ (s.size : Int) := by omega
   obtain ⟨r, hr⟩ : ∃ r, s.extract 1 s.size = r := ⟨_, rfl⟩
   have hrl : r.data.toList = s.data.toList.drop 1 := by rw [← hr, Lib.extract_to_end]
   have hrz : r.size ≤ 1000000 := by rw [← len_list, hrl, List.length_drop, len_list]; omega
   have C := Lib.hid (ref_form r hrz)
   unfold formPost at C
   rw [hrl] at C
   have HR := Lib.hid hr
   clear hr hrl hrz
   rcases formR_cases (s.data.toList.drop 1) with ⟨h1, h2⟩ | ⟨x, h1, h2, h3⟩
   · have HP := Lib.hid (parseO_no (l := s.data.toList) (by rw [if_pos hh]; exact h1))
     rw [h2] at C
     clear h1 h2 hh h45
     go_enter Tryz.func120, Tryz.ntmps120
     go_wp2_with fail
     rw [HR.out]
     refine (C.out _).mono ?_
     rintro e V ⟨rfl, hb⟩
     have HB := Lib.hid hb
     clear hb
     go_wp2_with fail
     go_ret2
     exact parse_post HP.out rfl rfl HB.out
   · have HP := Lib.hid (parseO_some (l := s.data.toList) (x := x) (by rw [if_pos hh]; exact h1))
     rw [h2] at C
     clear h1 h2 h45
     by_cases hx0 : x = 0
     · subst hx0
       have HP2 := Lib.hid (show parseO s.data.toList = (0, 5) by rw [HP.out, if_pos ⟨hh, rfl⟩])
       clear hh
       go_enter Tryz.func120, Tryz.ntmps120
       go_wp2_with fail
       rw [HR.out]
       refine (C.out _).mono ?_
       rintro e V ⟨rfl, hb⟩
       have HB := Lib.hid hb
       clear hb
       go_wp2_with fail
       go_ret2
       exact parse_post HP2.out rfl rfl HB.out
     · have tx : ((x : Int) == 0) = false := by rw [beq_eq_false_iff_ne]; omega
       by_cases hx : 604799 < x
       · have ix : (604799 : Int) < (x : Int) := by omega
         have HP2 := Lib.hid (show parseO s.data.toList = (0, 3) by rw [HP.out, if_neg (fun h => hx0 h.2), if_pos hx])
         clear hh hx0
         go_enter Tryz.func120, Tryz.ntmps120
         go_wp2_with fail
         rw [HR.out]
         refine (C.out _).mono ?_
         rintro e V ⟨rfl, hb⟩
         have HB := Lib.hid hb
         clear hb
         go_wp2_with fail
         go_ret2
         exact parse_post HP2.out rfl rfl HB.out
       · have ix : (x : Int) ≤ 604799 := by omega
         have HP2 := Lib.hid (show parseO s.data.toList = (-(x : Int), 0) by rw [HP.out, if_neg (fun h => hx0 h.2), if_neg hx, if_pos hh])
         clear hh hx0
         go_enter Tryz.func120, Tryz.ntmps120
         go_wp2_with fail
         rw [HR.out]
         refine (C.out _).mono ?_
         rintro e V ⟨rfl, hb⟩
         have HB := Lib.hid hb
         clear hb
         go_wp2_with fail
         go_ret2
         exact parse_post HP2.out rfl rfl HB.out
 · have hh : ¬ s.data.toList.headD 0 = 45 := by
     intro h
     by_cases h0 : 0 < s.size
     · exact hm ⟨h0, by rw [← headD_zero s h0, h]⟩
     · have : s.data.toList = [] := List.length_eq_zero_iff.1 (by rw [len_list]; omega)
       rw [this] at h; cases h
   have hc : (s.size : Int) ≤ 0 ∨ ((0 : Int) < (s.size : Int) ∧ ∃ h0 : 0 < s.size, ((s[0].toNat : Int) == 45) = false) := by
    by_cases h0 : 0 < s.size
    · right
      refine ⟨by omega, h0, ?_⟩
      rw [beq_eq_false_iff_ne]
      intro h
      exact hm ⟨h0, UInt8.toNat_inj.1 (by have : (45 : UInt8).toNat = 45 := rfl; omega)⟩
    · left; omega
   have C := Lib.hid (ref_form s hs)
   unfold formPost at C
   clear hm
   rcases formR_cases s.data.toList with ⟨h1, h2⟩ | ⟨x, h1, h2, h3⟩
   · have HP := Lib.hid (parseO_no (l := s.data.toList) (by rw [if_neg hh]; exact h1))
     rw [h2] at C
     clear h1 h2 hh
     rcases hc with hc | ⟨hc, h0, hc2⟩
     all_goals
      go_enter Tryz.func120, Tryz.ntmps120
      go_wp2_with fail
      refine (C.out _).mono ?_
      rintro e V ⟨rfl, hb⟩
      have HB := Lib.hid hb
      clear hb
      go_wp2_with fail
      go_ret2
      exact parse_post HP.out rfl rfl HB.out
   · have HP := Lib.hid (parseO_some (l := s.data.toList) (x := x) (by rw [if_neg hh]; exact h1))
     rw [h2] at C
     clear h1 h2
     by_cases hx : 604799 < x
     · have ix : (604799 : Int) < (x : Int) := by omega
       have HP2 := Lib.hid (show parseO s.data.toList = (0, 3) by rw [HP.out, if_neg (fun h => hh h.1), if_pos hx])
       clear hh
       rcases hc with hc | ⟨hc, h0, hc2⟩
       all_goals
        go_enter Tryz.func120, Tryz.ntmps120
        go_wp2_with fail
        refine (C.out _).mono ?_
        rintro e V ⟨rfl, hb⟩
        have HB := Lib.hid hb
        clear hb
        go_wp2_with fail
        go_ret2
        exact parse_post HP2.out rfl rfl HB.out
     · have ix : (x : Int) ≤ 604799 := by omega
       have HP2 := Lib.hid (show parseO s.data.toList = ((x : Int), 0) by rw [HP.out, if_neg (fun h => hh h.1), if_neg hx, if_neg hh])
       clear hh
       rcases hc with hc | ⟨hc, h0, hc2⟩
       all_goals
        go_enter Tryz.func120, Tryz.ntmps120
        go_wp2_with fail
        refine (C.out _).mono ?_
        rintro e V ⟨rfl, hb⟩
        have HB := Lib.hid hb
        clear hb
        go_wp2_with fail
        go_ret2
        exact parse_post HP2.out rfl rfl HB.out
end Go.Proofs.YtkpmmabdpeobaaaGreatDoor.Off
namespace Go.Proofs.YtkpmmabdpeobaaaGreatDoor.Px
open Go.RowKit
open Civ
def top : Nat := max (2 + 1) (max (3 + 1) (max (4 + 1) (max (5 + 1) (max (0 + 1) (8 + 1)))))
theorem tab_low {w w' : World} {k : IntKind} {zs : List Int} (h : Lib.TabIs Tryz.prog w "internal/strconv.uint64pow10" k zs) (hB : Below top w w') : Lib.TabIs Tryz.prog w' "internal/strconv.uint64pow10" k zs := by
 unfold Lib.TabIs World.var? at *
 have hg : Tryz.prog.globalNamed "internal/strconv.uint64pow10" = some 8 := by kernel_rfl
 rw [hg] at h ⊢
 simp only [Option.bind_some] at h ⊢
 rw [hB.block 8 (by decide)]
 exact h
theorem tab_lt {w : World} {k : IntKind} {zs : List Int} (h : Lib.TabIs Tryz.prog w "internal/strconv.uint64pow10" k zs) : 8 < w.heap.size := by
 unfold Lib.TabIs World.var? at h
 have hg : Tryz.prog.globalNamed "internal/strconv.uint64pow10" = some 8 := by kernel_rfl
 rw [hg] at h
 simp only [Option.bind_some] at h
 apply Classical.byContradiction
 intro hn
 rw [Array.getElem?_eq_none (by omega)] at h
 cases h
structure EnvAt (w : World) : Prop where
 before : BeforeAt w
 kinds : KindsAt w
 syn : ∃ te pe, w.cell? ⟨4, 0, none⟩ = some (.iface te pe)
 rng : ∃ te pe, w.cell? ⟨5, 0, none⟩ = some (.iface te pe)
 pow : Lib.TabIs Tryz.prog w "internal/strconv.uint64pow10" .u64 Lib.pow10Tab
 units : w.cell? ⟨0, 0, none⟩ = some (.int .i64 3600) ∧ w.cell? ⟨0, 1, none⟩ = some (.int .i64 60) ∧ w.cell? ⟨0, 2, none⟩ = some (.int .i64 1)
theorem cell_low {w w' : World} {g i : Nat} {v : Value} (h : w.cell? ⟨g, i, none⟩ = some v) (hB : Below top w w') (hg : g < top) : w'.cell? ⟨g, i, none⟩ = some v := (hB.cell (p := ⟨g, i, none⟩) hg).trans h
theorem EnvAt.low {w w' : World} (h : EnvAt w) (hB : Below top w w') : EnvAt w' := by
 obtain ⟨a, b, ⟨t1, p1, c⟩, ⟨t2, p2, d⟩, e, f0, f1, f2⟩ := h
 exact ⟨fun i hi => cell_low (a i hi) hB (by decide), ⟨cell_low b.1 hB (by decide), cell_low b.2.1 hB (by decide), cell_low b.2.2.1 hB (by decide), cell_low b.2.2.2.1 hB (by decide), cell_low b.2.2.2.2.1 hB (by decide), cell_low b.2.2.2.2.2 hB (by decide)⟩,
  ⟨t1, p1, cell_low c hB (by decide)⟩, ⟨t2, p2, cell_low d hB (by decide)⟩, tab_low e hB, cell_low f0 hB (by decide), cell_low f1 hB (by decide), cell_low f2 hB (by decide)⟩
theorem EnvAt.top {w : World} (h : EnvAt w) : Px.top ≤ w.heap.size := by
 have h1 := block_lt_of_cell (h.before 0 (by decide))
 have h2 := block_lt_of_cell h.kinds.1
 obtain ⟨_, _, h3⟩ := h.syn
 obtain ⟨_, _, h4⟩ := h.rng
 have h3 := block_lt_of_cell h3
 have h4 := block_lt_of_cell h4
 have h5 := tab_lt h.pow
 have h6 := block_lt_of_cell h.units.1
 dsimp only at h1 h2 h3 h4 h6
 unfold Px.top
 omega
theorem EnvAt.keep {w w' : World} (h : EnvAt w) (hB : Below w.heap.size w w') : EnvAt w' := h.low (hB.mono h.top)
structure But (b : Nat) (w w' : World) : Prop where
 below : Below b w w'
 above : ∀ k, b < k → k < w.heap.size → w'.heap[k]? = w.heap[k]?
theorem But.refl (b : Nat) (w : World) : But b w w := ⟨Below.refl _ _, fun _ _ _ => rfl⟩
theorem But.trans {b : Nat} {u v w : World} (h : But b u v) (k : But b v w) : But b u w :=
 ⟨h.below.trans k.below, fun i h1 h2 => (k.above i h1 (Nat.lt_of_lt_of_le h2 h.below.size)).trans (h.above i h1 h2)⟩
theorem But.of_below {b : Nat} {w w' : World} (hB : Below w.heap.size w w') (hb : b ≤ w.heap.size) : But b w w' := ⟨hB.mono hb, fun _ _ h2 => hB.block _ h2⟩
theorem But.set {b : Nat} (w : World) (i : Nat) (u : Value) : But b w (w.setCell ⟨b, i, none⟩ u) :=
 ⟨(Below.refl b w).setCell (p := ⟨b, i, none⟩) (Nat.le_refl b) u, fun k h1 _ => Below.heap_setCell _ _ _ _ (by show k ≠ b; omega)⟩
theorem But.heap {b k : Nat} {w w' : World} {x : Obj} (h : But b w w') (hk : w.heap[k]? = some x) (hne : k ≠ b) : w'.heap[k]? = some x := by
 have hlt : k < w.heap.size := lt_of_block hk
 rcases Nat.lt_or_gt_of_ne hne with h1 | h1
 · exact (h.below.block k h1).trans hk
 · exact (h.above k h1 hlt).trans hk
theorem But.low {b B : Nat} {w w' : World} (h : But b w w') (hB : B ≤ b) : Below B w w' := h.below.mono hB
end Go.Proofs.YtkpmmabdpeobaaaGreatDoor.Px
namespace Go.Proofs.YtkpmmabdpeobaaaGreatDoor.Px
open Go.RowKit
open Civ
open Off (run past digQ parseO)
def RdAt (w : World) (b : Nat) (l : List UInt8) (q : Bool) : Prop := w.heap[b]? = some (.cells #[.string (bs l), .bool q] 97 (0, 0))
theorem RdAt.lt {w : World} {b : Nat} {l : List UInt8} {q : Bool} (h : RdAt w b l q) : b < w.heap.size := lt_of_block h
theorem RdAt.keep {w w' : World} {b : Nat} {l : List UInt8} {q : Bool} (h : RdAt w b l q) (hB : Below w.heap.size w w') : RdAt w' b l q := (hB.block b h.lt).trans h
theorem RdAt.row {w : World} {b : Nat} {l : List UInt8} {q : Bool} (h : RdAt w b l q) : (w.cell? ⟨b, 0, none⟩ = some (.string (bs l)) ∧ w.cell? ⟨b, 1, none⟩ = some (.bool q)) ∧ w.frozen? ⟨b, 0, none⟩ = false ∧ w.frozen? ⟨b, 1, none⟩ = false :=
 ⟨⟨cells_at h 0, cells_at h 1⟩, free_at h 0, free_at h 1⟩
theorem RdAt.setL {w : World} {b : Nat} {l : List UInt8} {q : Bool} (h : RdAt w b l q) (m : List UInt8) : RdAt (w.setCell ⟨b, 0, none⟩ (.string (bs m))) b m q := cells_set h 0 _
theorem RdAt.setB {w : World} {b : Nat} {l : List UInt8} {q : Bool} (h : RdAt w b l q) (r : Bool) : RdAt (w.setCell ⟨b, 1, none⟩ (.bool r)) b l r := cells_set h 1 _
def RdPost (w : World) (b : Nat) (v : Value) (l : List UInt8) (q : Bool) (e : Ending) (w' : World) : Prop := e = .returned v ∧ But b w w' ∧ RdAt w' b l q
theorem bs_size (l : List UInt8) : (bs l).size = l.length := List.size_toArray
theorem run_past (p : UInt8 → Bool) (l : List UInt8) : run p l ++ past p l = l := List.takeWhile_append_dropWhile
theorem run_take (p : UInt8 → Bool) (l : List UInt8) : l.take (l.length - (past p l).length) = run p l := by
 have h := run_past p l
 have hl : l.length = (run p l).length + (past p l).length := by rw [← List.length_append, h]
 conv => lhs; arg 2; rw [← h]
 rw [hl, Nat.add_sub_cancel, List.take_left' rfl]
theorem past_le (p : UInt8 → Bool) (l : List UInt8) : (past p l).length ≤ l.length := by
 have h := congrArg List.length (run_past p l)
 rw [List.length_append] at h; omega
set_option maxHeartbeats 1000000 in
theorem run_any (p : UInt8 → Bool) (cs : ByteArray) (hcs : cs.size ≤ 1000) (hp : ∀ c, cs.data.toList.contains c = p c) (ha : ∀ (j : Nat) b, cs.data.toList[j]? = some b → b.toNat < 128) (b : Nat) (l : List UInt8) (hl : l.length ≤ 1000000) (q : Bool) (w : World) (h : RdAt w b l q) :
 Calls Tryz.prog 97 #[.pointer (some ⟨b, 0, none⟩), .string cs] w (RdPost w b (.string (bs (run p l))) (past p l) q) := by
 have CT := Lib.hid (fun w => Any.strings_TrimLeft_laid Tryz.lays161 (by kernel_rfl) (bs l) cs w (by omega) ha)
 rw [show Lib.trimLeftS (bs l).data.toList cs.data.toList = past p l by unfold Lib.trimLeftS past; rw [show (fun x => cs.data.toList.contains x) = p from funext hp]; rfl] at CT
 obtain ⟨⟨c0, c1⟩, f0, f1⟩ := h.row
 have HR := Lib.hid h
 have hpl := past_le p l
 have HZ := Lib.hid (bs_size l)
 have HZ2 := Lib.hid (bs_size (past p l))
 obtain ⟨s, hs⟩ : ∃ s, bs l = s := ⟨_, rfl⟩
 obtain ⟨r, hr⟩ : ∃ r, bs (past p l) = r := ⟨_, rfl⟩
 rw [show (⟨(past p l).toArray⟩ : ByteArray) = r from hr] at CT
 rw [hs] at c0 CT HZ
 rw [hr] at HZ2
 have z1 : r.size ≤ s.size := by rw [HZ.out, HZ2.out]; exact hpl
 have z2 : s.size ≤ 1000000 := by rw [HZ.out]; exact hl
 have z3 : (0 : Int) ≤ (s.size : Int) - (r.size : Int) := by omega
 have z4 : (s.size : Int) - (r.size : Int) ≤ (s.size : Int) := by omega
 have z5 : IntKind.i64.wrap ((s.size : Int) - (r.size : Int)) = (s.size : Int) - (r.size : Int) := IntWalk.i64_in _ (by omega)
 have z6 : ((s.size : Int) - (r.size : Int)).toNat = s.size - r.size := by omega
 have HS := Lib.hid hs
 have HR2 := Lib.hid hr
 clear h ha hp hs hr hpl
 go_enter Tryz.func97, Tryz.ntmps97
 go_wp2_with fail
 refine (CT.out _).mono ?_
 rintro e V ⟨rfl, hb⟩
 have HB := Lib.hid hb
 have d0 := keep_cell c0 hb
 have d1 := HR.out.keep hb
 have g0 : V.frozen? ⟨b, 0, none⟩ = false := free_at d1 0
 have HV := Lib.hid d1
 have hlt := d1.lt
 clear hb d1
 go_wp2_with fail
 go_quiet (fail)
 go_wp2_with fail
 go_ret
 have hx : s.extract 0 (s.size - r.size) = bs (run p l) := by
  rw [Lib.extract_eq, ← HS.out, Nat.sub_zero, List.drop_zero, bs_size, ← HR2.out, bs_size, bs_list, run_take]; rfl
 refine ⟨congrArg (fun s => Ending.returned (Value.string s)) hx, ?_, ?_⟩
 · exact (But.of_below (Civ.below_drewN HB.out nq) (Nat.le_of_lt HR.out.lt)).trans (But.set _ _ _)
 · rw [← HR2.out]
   exact RdAt.setL (HV.out.keep (Civ.below_drewN (Below.refl _ _) nq)) _
set_option maxHeartbeats 1000000 in
theorem next_any (c : UInt8) (b : Nat) (l : List UInt8) (q : Bool) (w : World) (h : RdAt w b l q) :
 Calls Tryz.prog 96 #[.pointer (some ⟨b, 0, none⟩), .string ⟨#[c]⟩] w (RdPost w b (.bool (nextB c l)) (nextR c l) q) := by
 have hq : Lib.hasPrefix l [c] = nextB c l := by
  unfold Lib.hasPrefix nextB
  cases l with
  | nil => rfl
  | cons a r =>
    show (c == a && true) = (a == c)
    rw [Bool.and_true]
    exact Bool.eq_iff_iff.2 ⟨fun h => beq_iff_eq.2 (beq_iff_eq.1 h).symm, fun h => beq_iff_eq.2 (beq_iff_eq.1 h).symm⟩
 have ht : Lib.trimPrefix l [c] = nextR c l := by unfold Lib.trimPrefix nextR; rw [hq]; rfl
 have CP := Lib.hid (Tryz.strings_CutPrefix (bs l) ⟨#[c]⟩)
 rw [bs_list, show (⟨#[c]⟩ : ByteArray).data.toList = [c] from rfl, hq, ht] at CP
 obtain ⟨⟨c0, c1⟩, f0, f1⟩ := h.row
 have HR := Lib.hid h
 have hlt := h.lt
 obtain ⟨s, hs⟩ : ∃ s, bs l = s := ⟨_, rfl⟩
 obtain ⟨r, hr⟩ : ∃ r, bs (nextR c l) = r := ⟨_, rfl⟩
 rw [show (⟨(nextR c l).toArray⟩ : ByteArray) = r from hr] at CP
 rw [hs] at c0 CP
 have HR2 := Lib.hid hr
 clear h hq ht hs hr
 go_enter Tryz.func96, Tryz.ntmps96
 go_wp2_with fail
 refine (CP.out _).mono ?_
 rintro e V ⟨rfl, rfl⟩
 go_wp2_with fail
 go_ret
 refine ⟨rfl, But.set _ _ _, ?_⟩
 rw [← HR2.out]
 exact HR.out.setL _
set_option maxHeartbeats 1000000 in
theorem want_any (c : UInt8) (b : Nat) (l : List UInt8) (q : Bool) (w : World) (h : RdAt w b l q) :
 Calls Tryz.prog 52 #[.pointer (some ⟨b, 0, none⟩), .string ⟨#[c]⟩] w (fun e w' => ∃ v, RdPost w b v (nextR c l) (q || !nextB c l) e w') := by
 have CN := Lib.hid (next_any c b l q)
 unfold RdPost at CN
 have HR := Lib.hid h
 obtain ⟨n, hn⟩ : ∃ n, nextB c l = n := ⟨_, rfl⟩
 rw [hn] at CN ⊢
 clear h hn
 go_enter Tryz.func52, Tryz.ntmps52
 go_wp2_with fail
 refine (CN.out _ HR.out).mono ?_
 rintro e V ⟨rfl, hb, hr⟩
 have HB := Lib.hid hb
 have HV := Lib.hid hr
 obtain ⟨⟨d0, d1⟩, g0, g1⟩ := hr.row
 clear hb hr
 cases n
 · go_wp2_with fail
   go_end0
   exact ⟨_, rfl, HB.out.trans (But.set _ _ _), by rw [show (q || !false) = true by cases q <;> rfl]; exact HV.out.setB _⟩
 · go_wp2_with fail
   go_end0
   exact ⟨_, rfl, HB.out.trans (But.set _ _ _), by rw [show (q || !true) = q by cases q <;> rfl]; exact HV.out.setB _⟩
def abc52 : ByteArray := ⟨#[65, 66, 67, 68, 69, 70, 71, 72, 73, 74, 75, 76, 77, 78, 79, 80, 81, 82, 83, 84, 85, 86, 87, 88, 89, 90, 97, 98, 99, 100, 101, 102, 103, 104, 105, 106, 107, 108, 109, 110, 111, 112, 113, 114, 115, 116, 117, 118, 119, 120, 121, 122]⟩
theorem contains_let (c : UInt8) : abc52.data.toList.contains c = letC c :=
 eq_of_beq (every_byte (fun c => abc52.data.toList.contains c == letC c) (by kernel_rfl) c)
theorem nextR_le (c : UInt8) (l : List UInt8) : (nextR c l).length ≤ l.length := by unfold nextR; split <;> simp
set_option maxHeartbeats 1000000 in
set_option maxRecDepth 100000 in
theorem rd_name (b : Nat) (l : List UInt8) (hl : l.length ≤ 1000000) (q : Bool) (w : World) (h : RdAt w b l q) :
 Calls Tryz.prog 49 #[.pointer (some ⟨b, 0, none⟩)] w (RdPost w b (.string (bs (nmS l))) (nmR l) (q || nmB l)) := by
 have CN := Lib.hid (next_any 60 b l q)
 have hl2 := nextR_le 60 l
 unfold nmS nmR nmB nmT nmP
 obtain ⟨n, hn⟩ : ∃ n, nextB 60 l = n := ⟨_, rfl⟩
 obtain ⟨m, hm⟩ : ∃ m, nextR 60 l = m := ⟨_, rfl⟩
 rw [hn, hm] at CN ⊢
 rw [hm] at hl2
 have HR := Lib.hid h
 unfold RdPost at CN
 clear h hn hm
 cases n
 · have CR := Lib.hid (run_any letC abc52 (by decide) contains_let (ascii_of_all (by decide)) b m (by omega) q)
   unfold RdPost at CR
   rw [if_neg (by decide), if_neg (by decide), Bool.false_and, Bool.or_false]
   go_enter Tryz.func49, Tryz.ntmps49
   go_wp2_with fail
   refine (CN.out _ HR.out).mono ?_
   rintro e V ⟨rfl, hb, hr⟩
   have HB := Lib.hid hb
   have HV := Lib.hid hr
   clear hb hr
   go_wp2_with fail
   refine (CR.out _ HV.out).mono ?_
   rintro e V2 ⟨rfl, hb, hr⟩
   have HB2 := Lib.hid (HB.out.trans hb)
   have HV2 := Lib.hid hr
   clear hb hr
   go_wp2_with fail
   go_ret
   exact ⟨rfl, HB2.out, HV2.out⟩
 · have CR := Lib.hid (run_any inB abc64 (by decide) contains_in (ascii_of_all (by decide)) b m (by omega) q)
   have CW := Lib.hid (want_any 62 b (past inB m) q)
   unfold RdPost at CR CW
   rw [if_pos rfl, if_pos rfl, Bool.true_and]
   go_enter Tryz.func49, Tryz.ntmps49
   go_wp2_with fail
   refine (CN.out _ HR.out).mono ?_
   rintro e V ⟨rfl, hb, hr⟩
   have HB := Lib.hid hb
   have HV := Lib.hid hr
   clear hb hr
   go_wp2_with fail
   refine (CR.out _ HV.out).mono ?_
   rintro e V2 ⟨rfl, hb, hr⟩
   have HB2 := Lib.hid (HB.out.trans hb)
   have HV2 := Lib.hid hr
   clear hb hr
   go_wp2_with fail
   refine (CW.out _ HV2.out).mono ?_
   rintro e V3 ⟨v, rfl, hb, hr⟩
   have HB3 := Lib.hid (HB2.out.trans hb)
   have HV3 := Lib.hid hr
   clear hb hr
   go_wp2_with fail
   go_ret
   exact ⟨rfl, HB3.out, HV3.out⟩
end Go.Proofs.YtkpmmabdpeobaaaGreatDoor.Px
namespace Go.Proofs.YtkpmmabdpeobaaaGreatDoor.Off
open Go.RowKit
open Civ
open Px (len_list bs bs_list bs_size)
theorem dec_a {n : Nat} (h : n < 10) : dec n = [UInt8.ofNat (48 + n)] := if_pos h
theorem dec_b {n : Nat} (h1 : ¬ n < 10) (h2 : n < 100) : dec n = dec (n / 10) ++ dec (n % 10) := by
 rw [dec_a (show n / 10 < 10 by omega), dec_a (show n % 10 < 10 by omega)]
 unfold dec
 rw [if_neg h1, if_pos h2, List.singleton_append]
theorem dec_c {n : Nat} (h1 : ¬ n < 100) (h2 : n < 1000) : dec n = dec (n / 10) ++ dec (n % 10) := by
 rw [dec_b (n := n / 10) (by omega) (by omega), dec_a (show n / 10 / 10 < 10 by omega), dec_a (show n / 10 % 10 < 10 by omega), dec_a (show n % 10 < 10 by omega)]
 unfold dec
 rw [if_neg (by omega), if_neg h1]
 rfl
theorem bs_add (a b : List UInt8) : bs a ++ bs b = bs (a ++ b) := by
 apply ByteArray.ext
 rw [ByteArray.data_append]
 show a.toArray ++ b.toArray = (a ++ b).toArray
 simp
def digs10 : ByteArray := ⟨#[48, 49, 50, 51, 52, 53, 54, 55, 56, 57]⟩
theorem digs_at (n : Nat) (h : n < 10) : digs10.extract n (n + 1) = bs (dec n) := by
 have : ((List.range 10).all fun n => (digs10.extract n (n + 1)).data == (bs (dec n)).data) = true := by kernel_rfl
 have := List.all_eq_true.1 this n (List.mem_range.2 h)
 exact congrArg ByteArray.mk (eq_of_beq this)
theorem ref_dec1 (n : Nat) (h : n < 10) (w : World) :
 Calls Tryz.prog 166 #[.int .i64 (n : Int)] w fun e w' => e = .returned (.string (bs (dec n))) ∧ w = w' := by
 have i1 : (n : Int) < 10 := by omega
 have i0 : (0 : Int) ≤ (n : Int) := by omega
 have HD := Lib.hid (digs_at n h)
 clear h
 go_enter Tryz.func166, Tryz.ntmps166
 go_wp2_with fail
 go_ret
 exact ⟨congrArg (fun s => Ending.returned (Value.string s)) HD.out, rfl⟩
theorem ref_dec1' (x : Int) (n : Nat) (hx : x = n) (h : n < 10) (w : World) :
 Calls Tryz.prog 166 #[.int .i64 x] w fun e w' => e = .returned (.string (bs (dec n))) ∧ w = w' := by
 subst hx; exact ref_dec1 n h w
theorem dec_len (n : Nat) : (dec n).length ≤ 3 := by
 unfold dec
 split
 · simp
 · split <;> simp
theorem cat_small {a b : ByteArray} (ha : a.size ≤ 1000000000) (hb : b.size ≤ 1000000000) : ¬ 9223372036854775807 < a.size + b.size := by omega
theorem dec_size (n : Nat) : (bs (dec n)).size ≤ 3 := by rw [bs_size]; exact dec_len n
theorem ref_dec2 (n : Nat) (h1 : 10 ≤ n) (h : n < 100) (w : World) :
 Calls Tryz.prog 166 #[.int .i64 (n : Int)] w fun e w' => e = .returned (.string (bs (dec n))) ∧ w = w' := by
 have i1 : (10 : Int) ≤ (n : Int) := by omega
 have i2 : (n : Int) < 100 := by omega
 have CA := Lib.hid (ref_dec1' ((n : Int) / 10) (n / 10) (by omega) (by omega))
 have CB := Lib.hid (ref_dec1' ((n : Int) % 10) (n % 10) (by omega) (by omega))
 have HE := Lib.hid (show bs (dec (n / 10)) ++ bs (dec (n % 10)) = bs (dec n) by rw [bs_add, ← dec_b (n := n) (by omega) h])
 have s1 := dec_size (n / 10)
 have s2 := dec_size (n % 10)
 obtain ⟨a, ha⟩ : ∃ a, bs (dec (n / 10)) = a := ⟨_, rfl⟩
 obtain ⟨b, hb⟩ : ∃ b, bs (dec (n % 10)) = b := ⟨_, rfl⟩
 rw [ha] at CA HE s1
 rw [hb] at CB HE s2
 have hcat := cat_small (a := a) (b := b) (by omega) (by omega)
 clear h h1 ha hb s1 s2
 go_enter Tryz.func166, Tryz.ntmps166
 go_wp2_with fail
 refine (CA.out _).mono ?_
 rintro e w' ⟨rfl, rfl⟩
 go_wp2_with fail
 refine (CB.out _).mono ?_
 rintro e w' ⟨rfl, rfl⟩
 go_wp2_with fail
 go_ret
 exact ⟨congrArg (fun s => Ending.returned (Value.string s)) HE.out, rfl⟩
theorem ref_dec12 (x : Int) (n : Nat) (hx : x = n) (h : n < 100) (w : World) :
 Calls Tryz.prog 166 #[.int .i64 x] w fun e w' => e = .returned (.string (bs (dec n))) ∧ w = w' := by
 subst hx
 by_cases h1 : n < 10
 · exact ref_dec1 n h1 w
 · exact ref_dec2 n (by omega) h w
theorem ref_dec3 (n : Nat) (h1 : 100 ≤ n) (h : n < 1000) (w : World) :
 Calls Tryz.prog 166 #[.int .i64 (n : Int)] w fun e w' => e = .returned (.string (bs (dec n))) ∧ w = w' := by
 have i1 : (10 : Int) ≤ (n : Int) := by omega
 have i2 : (n : Int) ≤ 999 := by omega
 have CA := Lib.hid (ref_dec12 ((n : Int) / 10) (n / 10) (by omega) (by omega))
 have CB := Lib.hid (ref_dec1' ((n : Int) % 10) (n % 10) (by omega) (by omega))
 have HE := Lib.hid (show bs (dec (n / 10)) ++ bs (dec (n % 10)) = bs (dec n) by rw [bs_add, ← dec_c (n := n) (by omega) h])
 have s1 := dec_size (n / 10)
 have s2 := dec_size (n % 10)
 obtain ⟨a, ha⟩ : ∃ a, bs (dec (n / 10)) = a := ⟨_, rfl⟩
 obtain ⟨b, hb⟩ : ∃ b, bs (dec (n % 10)) = b := ⟨_, rfl⟩
 rw [ha] at CA HE s1
 rw [hb] at CB HE s2
 have hcat := cat_small (a := a) (b := b) (by omega) (by omega)
 clear h h1 ha hb s1 s2
 go_enter Tryz.func166, Tryz.ntmps166
 go_wp2_with fail
 refine (CA.out _).mono ?_
 rintro e w' ⟨rfl, rfl⟩
 go_wp2_with fail
 refine (CB.out _).mono ?_
 rintro e w' ⟨rfl, rfl⟩
 go_wp2_with fail
 go_ret
 exact ⟨congrArg (fun s => Ending.returned (Value.string s)) HE.out, rfl⟩
theorem ref_decimal (x : Int) (n : Nat) (hx : x = n) (h : n < 1000) (w : World) :
 Calls Tryz.prog 166 #[.int .i64 x] w fun e w' => e = .returned (.string (bs (dec n))) ∧ w = w' := by
 by_cases h1 : n < 100
 · exact ref_dec12 x n hx h1 w
 · subst hx; exact ref_dec3 n (by omega) h w
theorem two_dec {n : Nat} (h : n < 100) : two n = dec (n / 10) ++ dec (n % 10) := by
 rw [dec_a (show n / 10 < 10 by omega), dec_a (show n % 10 < 10 by omega)]; rfl
theorem ref_two (x : Int) (n : Nat) (hx : x = n) (h : n < 100) (w : World) :
 Calls Tryz.prog 167 #[.int .i64 x] w fun e w' => e = .returned (.string (bs (two n))) ∧ w = w' := by
 subst hx
 have i1 : (0 : Int) ≤ (n : Int) := by omega
 have i2 : (n : Int) < 100 := by omega
 have CA := Lib.hid (ref_dec1' ((n : Int) / 10) (n / 10) (by omega) (by omega))
 have CB := Lib.hid (ref_dec1' ((n : Int) % 10) (n % 10) (by omega) (by omega))
 have HE := Lib.hid (show bs (dec (n / 10)) ++ bs (dec (n % 10)) = bs (two n) by rw [bs_add, ← two_dec h])
 have s1 := dec_size (n / 10)
 have s2 := dec_size (n % 10)
 obtain ⟨a, ha⟩ : ∃ a, bs (dec (n / 10)) = a := ⟨_, rfl⟩
 obtain ⟨b, hb⟩ : ∃ b, bs (dec (n % 10)) = b := ⟨_, rfl⟩
 rw [ha] at CA HE s1
 rw [hb] at CB HE s2
 have hcat := cat_small (a := a) (b := b) (by omega) (by omega)
 clear h ha hb s1 s2
 go_enter Tryz.func167, Tryz.ntmps167
 go_wp2_with fail
 refine (CA.out _).mono ?_
 rintro e w' ⟨rfl, rfl⟩
 go_wp2_with fail
 refine (CB.out _).mono ?_
 rintro e w' ⟨rfl, rfl⟩
 go_wp2_with fail
 go_ret
 exact ⟨congrArg (fun s => Ending.returned (Value.string s)) HE.out, rfl⟩
theorem two_size (n : Nat) : (bs (two n)).size = 2 := by rw [bs_size]; rfl
set_option maxHeartbeats 1000000 in
theorem ref_print_pos (n : Nat) (h : n ≤ 604799) (w : World) :
 Calls Tryz.prog 133 #[.int .i64 (n : Int)] w fun e w' => e = .returned (.tuple #[.string (bs (printN n)), .int .i64 0]) ∧ w = w' := by
 have i1 : (0 : Int) ≤ (n : Int) := by omega
 have i2 : (n : Int) ≤ 604799 := by omega
 have CA := Lib.hid (ref_decimal ((n : Int) / 3600) (n / 3600) (by omega) (by omega))
 have CB := Lib.hid (ref_two ((n : Int) / 60 % 60) (n / 60 % 60) (by omega) (by omega))
 have CC := Lib.hid (ref_two ((n : Int) % 60) (n % 60) (by omega) (by omega))
 have s1 := dec_size (n / 3600)
 have s2 := two_size (n / 60 % 60)
 have s3 := two_size (n % 60)
 have HE := Lib.hid (show n % 60 = 0 → bs (dec (n / 3600)) ++ ⟨#[58]⟩ ++ bs (two (n / 60 % 60)) = bs (printN n) by
  intro hn; unfold printN; rw [if_pos hn, show (⟨#[58]⟩ : ByteArray) = bs [58] from rfl, bs_add, bs_add]; simp)
 have HF := Lib.hid (show n % 60 ≠ 0 → bs (dec (n / 3600)) ++ ⟨#[58]⟩ ++ bs (two (n / 60 % 60)) ++ ⟨#[58]⟩ ++ bs (two (n % 60)) = bs (printN n) by
  intro hn; unfold printN; rw [if_neg hn, show (⟨#[58]⟩ : ByteArray) = bs [58] from rfl, bs_add, bs_add, bs_add, bs_add]; simp)
 obtain ⟨a, ha⟩ : ∃ a, bs (dec (n / 3600)) = a := ⟨_, rfl⟩
 obtain ⟨b, hb⟩ : ∃ b, bs (two (n / 60 % 60)) = b := ⟨_, rfl⟩
 obtain ⟨c, hc⟩ : ∃ c, bs (two (n % 60)) = c := ⟨_, rfl⟩
 rw [ha] at CA HE HF s1
 rw [hb] at CB HE HF s2
 rw [hc] at CC HF s3
 have k1 : (⟨#[58]⟩ : ByteArray).size = 1 := rfl
 have hc1 : ¬ 9223372036854775807 < a.size + 1 := by omega
 have hc2 : ¬ 9223372036854775807 < a.size + 1 + b.size := by omega
 have hc3 : ¬ 9223372036854775807 < a.size + 1 + b.size + 1 := by omega
 have hc4 : ¬ 9223372036854775807 < a.size + 1 + b.size + 1 + c.size := by omega
 by_cases hn : n % 60 = 0
 · have HX := Lib.hid (HE.out hn)
   have t0 : (((n : Int) % 60) != 0) = false := by rw [bne_eq_false_iff_eq]; omega
   clear h ha hb hc s1 s2 s3 k1 hn HE HF
   go_enter Tryz.func133, Tryz.ntmps133
   go_wp2_with fail
   refine (CA.out _).mono ?_
   rintro e w' ⟨rfl, rfl⟩
   go_wp2_with fail
   refine (CB.out _).mono ?_
   rintro e w' ⟨rfl, rfl⟩
   go_wp2_with fail
   go_ret2
   exact ⟨congrArg (fun s => Ending.returned (.tuple #[Value.string s, .int .i64 0])) HX.out, rfl⟩
 · have HX := Lib.hid (HF.out hn)
   have t0 : (((n : Int) % 60) != 0) = true := by rw [bne_iff_ne]; omega
   clear h ha hb hc s1 s2 s3 k1 hn HE HF
   go_enter Tryz.func133, Tryz.ntmps133
   go_wp2_with fail
   refine (CA.out _).mono ?_
   rintro e w' ⟨rfl, rfl⟩
   go_wp2_with fail
   refine (CB.out _).mono ?_
   rintro e w' ⟨rfl, rfl⟩
   go_wp2_with fail
   refine (CC.out _).mono ?_
   rintro e w' ⟨rfl, rfl⟩
   go_wp2_with fail
   go_ret2
   exact ⟨congrArg (fun s => Ending.returned (.tuple #[Value.string s, .int .i64 0])) HX.out, rfl⟩
theorem ref_print_pos' (x : Int) (n : Nat) (hx : x = n) (h : n ≤ 604799) (w : World) :
 Calls Tryz.prog 133 #[.int .i64 x] w fun e w' => e = .returned (.tuple #[.string (bs (printN n)), .int .i64 0]) ∧ w = w' := by
 subst hx; exact ref_print_pos n h w
theorem printN_len (n : Nat) : (printN n).length ≤ 9 := by
 unfold printN
 have := dec_len (n / 3600)
 have h2 : ∀ n, (two n).length = 2 := fun _ => rfl
 split <;> simp [h2] <;> omega
theorem ref_print (x : Int) (h0 : -604799 ≤ x) (h1 : x ≤ 604799) (w : World) :
 Calls Tryz.prog 133 #[.int .i64 x] w fun e w' => e = .returned (.tuple #[.string (bs (printO x)), .int .i64 0]) ∧ w = w' := by
 unfold printO
 by_cases h : x < 0
 · rw [if_pos h]
   have CA := Lib.hid (ref_print_pos' (-x) (-x).toNat (by omega) (by omega))
   have s1 : (bs (printN (-x).toNat)).size ≤ 9 := by rw [bs_size]; exact printN_len _
   have HE := Lib.hid (show (⟨#[45]⟩ : ByteArray) ++ bs (printN (-x).toNat) = bs (45 :: printN (-x).toNat) by rw [show (⟨#[45]⟩ : ByteArray) = bs [45] from rfl, bs_add]; rfl)
   obtain ⟨a, ha⟩ : ∃ a, bs (printN (-x).toNat) = a := ⟨_, rfl⟩
   rw [ha] at CA HE s1
   have hcat : ¬ 9223372036854775807 < 1 + a.size := by omega
   clear ha s1
   go_enter Tryz.func133, Tryz.ntmps133
   go_wp2_with fail
   refine (CA.out _).mono ?_
   rintro e w' ⟨rfl, rfl⟩
   go_wp2_with fail
   go_ret2
   exact ⟨congrArg (fun s => Ending.returned (.tuple #[Value.string s, .int .i64 0])) HE.out, rfl⟩
 · rw [if_neg h]
   exact ref_print_pos' x x.toNat (by omega) (by omega) w
end Go.Proofs.YtkpmmabdpeobaaaGreatDoor.Off
namespace Go.Proofs.YtkpmmabdpeobaaaGreatDoor.Off
open Go.RowKit
open Civ
open Px (len_list bs bs_list bs_size But)
def VarAt (w : World) (b : Nat) (l : List UInt8) : Prop := w.heap[b]? = some (.cells #[.string (bs l)] 9 (0, 0))
theorem VarAt.row {w : World} {b : Nat} {l : List UInt8} (h : VarAt w b l) : w.cell? ⟨b, 0, none⟩ = some (.string (bs l)) ∧ w.frozen? ⟨b, 0, none⟩ = false := ⟨Px.cells_at h 0, Px.free_at h 0⟩
theorem VarAt.set {w : World} {b : Nat} {l : List UInt8} (h : VarAt w b l) (m : List UInt8) : VarAt (w.setCell ⟨b, 0, none⟩ (.string (bs m))) b m := Px.cells_set h 0 _
theorem VarAt.keep {w w' : World} {b : Nat} {l : List UInt8} (h : VarAt w b l) (hB : Below w.heap.size w w') : VarAt w' b l := (hB.block b (lt_of_block h)).trans h
theorem VarAt.but {w w' : World} {b k : Nat} {l : List UInt8} (h : VarAt w k l) (hB : But b w w') (hne : k ≠ b) : VarAt w' k l := hB.heap h hne
def takeD (n : Nat) (l : List UInt8) : List UInt8 := run digQ (l.take n)
theorem takeD_of {n k : Nat} {l : List UInt8} (h1 : k ≤ n) (h2 : k ≤ l.length) (ha : (l.take k).all digQ = true) (h : k = n ∨ k = l.length ∨ ∃ hk : k < l.length, digQ l[k] = false) : takeD n l = l.take k := by
 unfold takeD
 have e : (l.take n).take k = l.take k := by rw [List.take_take, Nat.min_eq_left h1]
 have hl : (l.take n).length = min n l.length := List.length_take
 have := (run_of (p := digQ) k (l.take n) (by rw [List.length_take]; omega) (by rw [e]; exact ha) (by
  rcases h with h | h | ⟨hk, h⟩
  · left; omega
  · left; omega
  · by_cases hkn : k = n
    · left; omega
    · right; refine ⟨by omega, ?_⟩; rw [List.getElem_take]; exact h)).1
 rw [this, e]
set_option maxHeartbeats 2000000 in
theorem digits_any (n : Int) (n0 : 0 ≤ n) (n1 : n ≤ 1000) (b : Nat) (l : List UInt8) (hl : l.length ≤ 1000000) (w : World) (h : VarAt w b l) :
 Calls Tryz.prog 142 #[.int .i64 n, .pointer (some ⟨b, 0, none⟩)] w fun e w' => e = .returned (.string (bs (takeD n.toNat l))) ∧ But b w w' ∧ VarAt w' b (l.drop (takeD n.toNat l).length) := by
 have HV := Lib.hid h
 obtain ⟨c0, f0⟩ := h.row
 have hz := bs_size l
 have hd := bs_list l
 obtain ⟨s, hs⟩ : ∃ s, bs l = s := ⟨_, rfl⟩
 rw [hs] at c0 hz hd
 have z : s.size ≤ 1000000 := by omega
 have HS := Lib.hid hs
 have HZ := Lib.hid hz
 have HD := Lib.hid hd
 clear h hz hs hd
 go_enter Tryz.func142, Tryz.ntmps142
 go_wp2_with fail
 go_loop [4] (fun i => ∃ k : Nat, i = .int .i64 k ∧ (k : Int) ≤ n ∧ k ≤ s.size ∧ (l.take k).all digQ = true) (fun i => s.size - (intOf i).toNat)
 case atStart => exact ⟨0, rfl, n0, Nat.zero_le _, rfl⟩
 case round =>
  obtain ⟨k, rfl, hkn, hks, hall⟩ := hrel
  have HALL := Lib.hid hall
  have i1 : (k : Int) ≤ (s.size : Int) := by omega
  clear hall
  have hfin : ∀ (h : k = n.toNat ∨ k = l.length ∨ ∃ hk : k < l.length, digQ l[k] = false), (Ending.returned (.string (s.extract 0 k)) = .returned (.string (bs (takeD n.toNat l)))) ∧ But b w (w.setCell ⟨b, 0, none⟩ (.string (s.extract k s.size))) ∧ VarAt (w.setCell ⟨b, 0, none⟩ (.string (s.extract k s.size))) b (l.drop (takeD n.toNat l).length) := by
   intro h
   have e1 := takeD_of (n := n.toNat) (by omega) (by have := HZ.out; omega) HALL.out h
   have x1 : s.extract 0 k = bs (l.take k) := by rw [← HS.out, Lib.extract_eq, Nat.sub_zero, List.drop_zero, bs_list]; rfl
   have x2 : s.extract k s.size = bs (l.drop k) := by rw [← HS.out, Lib.extract_eq, bs_list, bs_size, List.take_of_length_le (by rw [List.length_drop]; omega)]; rfl
   rw [e1, x1, x2, List.length_take, show min k l.length = k by have := HZ.out; omega]
   exact ⟨rfl, But.set _ _ _, HV.out.set _⟩
  have HFIN := Lib.hid hfin
  clear hfin
  by_cases hlt : k < s.size
  · have i2 : (k : Int) < (s.size : Int) := by omega
    have i3 : decide ((k : Int) < (s.size : Int)) = true := decide_eq_true i2
    have i4 : (0 : Int) ≤ (k : Int) := by omega
    have hsk : ∀ hk : k < l.length, l[k] = s[k] := by
     intro hk
     have := HS.out
     subst this
     rfl
    have HSK := Lib.hid hsk
    have hkl : k < l.length := by have := HZ.out; omega
    clear hsk
    by_cases hn : (k : Int) < n
    · have i5 : decide ((k : Int) < n) = true := decide_eq_true hn
      by_cases h1 : 48 ≤ s[k].toNat
      · have j1 : decide ((48 : Int) ≤ (s[k].toNat : Int)) = true := decide_eq_true (by omega)
        by_cases h2 : s[k].toNat ≤ 57
        · have j2 : decide ((s[k].toNat : Int) ≤ 57) = true := decide_eq_true (by omega)
          have HA2 := Lib.hid (show (l.take (k + 1)).all digQ = true by
           rw [List.take_succ_eq_append_getElem hkl, List.all_append, HALL.out, HSK.out hkl]; simp [digQ_iff.2 ⟨h1, h2⟩])
          go_wp2_with fail
          exact ⟨⟨k + 1, by go_num, by omega, by omega, HA2.out⟩, by simp [intOf]; omega⟩
        · have j2 : decide ((s[k].toNat : Int) ≤ 57) = false := decide_eq_false (by omega)
          have HF := Lib.hid (HFIN.out (.inr (.inr ⟨hkl, by rw [HSK.out hkl]; unfold digQ; simp [h2]⟩)))
          go_wp2_with fail
          go_ret
          exact HF.out
      · have j1 : decide ((48 : Int) ≤ (s[k].toNat : Int)) = false := decide_eq_false (by omega)
        have HF := Lib.hid (HFIN.out (.inr (.inr ⟨hkl, by rw [HSK.out hkl]; unfold digQ; simp [h1]⟩)))
        go_wp2_with fail
        go_ret
        exact HF.out
    · have i5 : decide ((k : Int) < n) = false := decide_eq_false hn
      have HF := Lib.hid (HFIN.out (.inl (by omega)))
      go_wp2_with fail
      go_ret
      exact HF.out
  · have i3 : decide ((k : Int) < (s.size : Int)) = false := decide_eq_false (by omega)
    have HF := Lib.hid (HFIN.out (.inr (.inl (by have := HZ.out; omega))))
    go_wp2_with fail
    go_ret
    exact HF.out
end Go.Proofs.YtkpmmabdpeobaaaGreatDoor.Off
