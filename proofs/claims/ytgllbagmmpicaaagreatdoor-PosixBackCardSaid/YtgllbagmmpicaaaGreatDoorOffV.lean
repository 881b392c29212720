/- The function offset.Parse: amounts of time are read as the document says. -/
import Derived.Test.YtgllbagmmpicaaaGreatDoorOffU
import Derived.Test.YtgllbagmmpicaaaGreatDoorOffS
import Derived.Lib.AtoiErrMem
import Derived.Lib.ParseIntBTie

namespace Go.Proofs.YtgllbagmmpicaaaGreatDoor.Off
open Go.RowKit
open Civ
open Px (len_list bs bs_list bs_size But EnvAt)

/-- hours: some digits, and what is behind them -/
def stepA (l : List UInt8) : Option (Nat × List UInt8) :=
  if takeD 3 l = [] ∨ (1 < (takeD 3 l).length ∧ (takeD 3 l).headD 0 = 48) then none else some (valD (takeD 3 l), l.drop (takeD 3 l).length)
/-- minutes or seconds behind a colon -/
def stepB (l : List UInt8) : Option (Nat × List UInt8) :=
  match l with
  | c :: r => if c = 58 then pairL r else none
  | [] => none
def tailW (l : List UInt8) : Option Nat :=
  if l = [] then some 0 else match stepB l with
    | none => none
    | some (m, r) => if r = [] then some (60 * m) else match stepB r with
      | none => none
      | some (s, r2) => if r2 = [] then some (60 * m + s) else none
def formW (l : List UInt8) : Option Nat :=
  match stepA l with
  | none => none
  | some (h, r) => match tailW r with
    | none => none
    | some x => some (3600 * h + x)
theorem stepB_cons (c : UInt8) (r : List UInt8) : stepB (c :: r) = if c = 58 then pairL r else none := rfl
theorem stepB_colon (r : List UInt8) : stepB (58 :: r) = pairL r := by rw [stepB_cons, if_pos rfl]
theorem stepB_other {c : UInt8} (r : List UInt8) (h : c ≠ 58) : stepB (c :: r) = none := by rw [stepB_cons, if_neg h]
theorem tailW_eq (l : List UInt8) : tailW l = tailL l := by
  unfold tailW
  cases l with
  | nil => rfl
  | cons c r =>
    rw [if_neg (by simp)]
    by_cases hc : c = 58
    · subst hc
      rw [tail_colon, stepB_colon]
      cases h : pairL r with
      | none => rfl
      | some q =>
        obtain ⟨m, r1⟩ := q
        cases r1 with
        | nil => rfl
        | cons c2 r3 =>
          dsimp only
          rw [if_neg (by simp)]
          by_cases hc2 : c2 = 58
          · subst hc2
            rw [stepB_colon, if_pos rfl]
            cases h2 : pairL r3 with
            | none => rfl
            | some q2 =>
              obtain ⟨s, r4⟩ := q2
              cases r4 with
              | nil => rfl
              | cons a b => rfl
          · rw [if_neg hc2, stepB_other _ hc2]
    · rw [tail_other _ hc, stepB_other _ hc]
theorem takeD_le (n : Nat) (l : List UInt8) : (takeD n l).length ≤ n ∧ (takeD n l).length ≤ l.length := by
  unfold takeD
  have h := congrArg List.length (Px.run_past digQ (l.take n))
  rw [List.length_append, List.length_take] at h
  omega
theorem takeD_short {n : Nat} {l : List UInt8} (h : (run digQ l).length ≤ n) : takeD n l = run digQ l := by
  unfold takeD
  have e := Px.run_past digQ l
  have h2 : l.take n = run digQ l ++ (past digQ l).take (n - (run digQ l).length) := by
    conv => lhs; rw [← e]
    rw [List.take_append, List.take_of_length_le h]
  rw [h2]
  obtain ⟨x, hx⟩ : ∃ x, (past digQ l).take (n - (run digQ l).length) = x := ⟨_, rfl⟩
  rw [hx]
  have hx2 : run digQ x = [] := by
    rw [← hx]
    cases hp : past digQ l with
    | nil => simp [run]
    | cons a r =>
      have ha : digQ a = false := by
        have := List.head_dropWhile_not (p := digQ) (l := l) (by unfold past at hp; rw [hp]; simp)
        unfold past at hp
        simpa [hp] using this
      cases n - (run digQ l).length with
      | zero => rfl
      | succ k => unfold run; rw [List.take_succ_cons, List.takeWhile_cons_of_neg (by rw [ha]; decide)]
  have hall := Px.run_all digQ l
  clear h2 e h hx
  generalize run digQ l = y at *
  induction y with
  | nil => exact hx2
  | cons a r ih =>
    rw [List.all_cons, Bool.and_eq_true] at hall
    unfold run at *
    rw [List.cons_append, List.takeWhile_cons_of_pos hall.1, ih hall.2]
theorem takeD_long {l : List UInt8} (h : 3 < (run digQ l).length) : ∃ c r, l.drop (takeD 3 l).length = c :: r ∧ digQ c = true := by
  have e := Px.run_past digQ l
  have hall := Px.run_all digQ l
  have e3 : takeD 3 l = (run digQ l).take 3 := by
    have : l.take 3 = (run digQ l).take 3 := by
      conv => lhs; rw [← e]
      rw [List.take_append_of_le_length (by omega)]
    unfold takeD
    rw [this]
    have h2 : ((run digQ l).take 3).all digQ = true := by
      rw [List.all_eq_true] at hall ⊢
      exact fun x hx => hall x (List.mem_of_mem_take hx)
    have := (run_of (p := digQ) 3 ((run digQ l).take 3) (by rw [List.length_take]; omega) (by rw [List.take_of_length_le (by rw [List.length_take]; omega)]; exact h2) (.inl (by rw [List.length_take]; omega))).1
    rw [this, List.take_of_length_le (by rw [List.length_take]; omega)]
  have el : (takeD 3 l).length = 3 := by rw [e3, List.length_take]; omega
  rw [el]
  have hd : l.drop 3 = (run digQ l).drop 3 ++ past digQ l := by
    conv => lhs; rw [← e]
    rw [List.drop_append_of_le_length (by omega)]
  cases hc : (run digQ l).drop 3 with
  | nil => have := congrArg List.length hc; rw [List.length_drop] at this; simp at this; omega
  | cons c r =>
    refine ⟨c, r ++ past digQ l, by rw [hd, hc]; rfl, ?_⟩
    rw [List.all_eq_true] at hall
    exact hall c (List.mem_of_mem_drop (by rw [hc]; simp))
theorem formW_eq (l : List UInt8) : formW l = formL l := by
  rw [formL_eq]
  unfold formW
  have hA : stepA l = if takeD 3 l = [] ∨ (1 < (takeD 3 l).length ∧ (takeD 3 l).headD 0 = 48) then none else some (valD (takeD 3 l), l.drop (takeD 3 l).length) := rfl
  by_cases h : 3 < (run digQ l).length
  · rw [if_pos (show run digQ l = [] ∨ 3 < (run digQ l).length ∨ (1 < (run digQ l).length ∧ (run digQ l).headD 0 = 48) from .inr (.inl h))]
    obtain ⟨c, r, h1, h2⟩ := takeD_long h
    by_cases hc : takeD 3 l = [] ∨ (1 < (takeD 3 l).length ∧ (takeD 3 l).headD 0 = 48)
    · rw [if_pos hc] at hA
      rw [hA]
    · rw [if_neg hc] at hA
      rw [hA]
      dsimp only
      rw [h1, tailW_eq, tail_other]
      intro e
      subst e
      cases h2
  · have e := takeD_short (n := 3) (l := l) (by omega)
    rw [e] at hA
    have hp : l.drop (run digQ l).length = past digQ l := by
      have e := Px.run_past digQ l
      conv => lhs; arg 2; rw [← e]
      rw [List.drop_left' rfl]
    by_cases hc : run digQ l = [] ∨ (1 < (run digQ l).length ∧ (run digQ l).headD 0 = 48)
    · rw [if_pos hc] at hA
      rw [hA, if_pos (by rcases hc with h | h; exact .inl h; exact .inr (.inr h))]
    · rw [if_neg hc] at hA
      rw [hA, if_neg (by rintro (h1 | h1 | h1); exact hc (.inl h1); exact h h1; exact hc (.inr h1))]
      dsimp only
      rw [hp, tailW_eq]
      cases tailL (past digQ l) <;> rfl
/-- what has been read, and what is left -/
def Fin (l : List UInt8) (p0 p1 p2 : Nat) (r : List UInt8) : Prop := (r = [] → formL l = some (3600 * p0 + (60 * p1 + p2))) ∧ (r ≠ [] → formL l = none) ∧ p0 ≤ 999 ∧ p1 ≤ 59 ∧ p2 ≤ 59
theorem stepA_bd {l r : List UInt8} {h : Nat} (e : stepA l = some (h, r)) : h ≤ 999 ∧ r.length ≤ l.length := by
  unfold stepA at e
  split at e
  · cases e
  · simp only [Option.some.injEq, Prod.mk.injEq] at e
    obtain ⟨rfl, rfl⟩ := e
    have h1 := valD_lt (takeD 3 l) (Px.run_all _ _)
    have h2 := Nat.pow_le_pow_right (n := 10) (by decide) (takeD_le 3 l).1
    exact ⟨by omega, by rw [List.length_drop]; omega⟩
theorem stepB_bd {l r : List UInt8} {m : Nat} (e : stepB l = some (m, r)) : m ≤ 59 ∧ r.length ≤ l.length := by
  cases l with
  | nil => cases e
  | cons c q =>
    rw [stepB_cons] at e
    by_cases hc : c = 58
    · rw [if_pos hc] at e
      obtain ⟨h1, h2, h3⟩ := pairL_some e
      exact ⟨h3, by rw [h1, List.length_drop, List.length_cons]; omega⟩
    · rw [if_neg hc] at e; cases e
theorem formL_A {l r : List UInt8} {h : Nat} (e : stepA l = some (h, r)) : formL l = match tailW r with
    | none => none
    | some x => some (3600 * h + x) := by rw [← formW_eq]; unfold formW; rw [e]
theorem formL_A0 {l : List UInt8} (e : stepA l = none) : formL l = none := by rw [← formW_eq]; unfold formW; rw [e]
theorem tailW_B {l r : List UInt8} {m : Nat} (hne : l ≠ []) (e : stepB l = some (m, r)) : tailW l = if r = [] then some (60 * m) else match stepB r with
      | none => none
      | some (s, r2) => if r2 = [] then some (60 * m + s) else none := by unfold tailW; rw [if_neg hne, e]
theorem tailW_B0 {l : List UInt8} (hne : l ≠ []) (e : stepB l = none) : tailW l = none := by unfold tailW; rw [if_neg hne, e]
theorem fin1 {l : List UInt8} {h : Nat} (e : stepA l = some (h, [])) : Fin l h 0 0 [] :=
  ⟨fun _ => by rw [formL_A e]; rfl, fun h => absurd rfl h, (stepA_bd e).1, by omega, by omega⟩
theorem fin2 {l r : List UInt8} {h m : Nat} (e : stepA l = some (h, r)) (hne : r ≠ []) (e2 : stepB r = some (m, [])) : Fin l h m 0 [] :=
  ⟨fun _ => by rw [formL_A e, tailW_B hne e2, if_pos rfl]; rfl, fun h => absurd rfl h, (stepA_bd e).1, (stepB_bd e2).1, by omega⟩
theorem fin3 {l r r2 r3 : List UInt8} {h m s : Nat} (e : stepA l = some (h, r)) (hne : r ≠ []) (e2 : stepB r = some (m, r2)) (hne2 : r2 ≠ []) (e3 : stepB r2 = some (s, r3)) : Fin l h m s r3 := by
  refine ⟨fun h => ?_, fun h => ?_, (stepA_bd e).1, (stepB_bd e2).1, (stepB_bd e3).1⟩
  · rw [formL_A e, tailW_B hne e2, if_neg hne2, e3]; dsimp only; rw [if_pos h]
  · rw [formL_A e, tailW_B hne e2, if_neg hne2, e3]; dsimp only; rw [if_neg h]
theorem bad2 {l r : List UInt8} {h : Nat} (e : stepA l = some (h, r)) (hne : r ≠ []) (e2 : stepB r = none) : formL l = none := by rw [formL_A e, tailW_B0 hne e2]
theorem bad3 {l r r2 : List UInt8} {h m : Nat} (e : stepA l = some (h, r)) (hne : r ≠ []) (e2 : stepB r = some (m, r2)) (hne2 : r2 ≠ []) (e3 : stepB r2 = none) : formL l = none := by rw [formL_A e, tailW_B hne e2, if_neg hne2, e3]
theorem pair_take (r : List UInt8) : pairL r = if (takeD 2 r).length = 2 ∧ valD (takeD 2 r) ≤ 59 then some (valD (takeD 2 r), r.drop 2) else none := by
  match r with
  | [] => rfl
  | [a] =>
    have := (takeD_le 2 [a]).2
    rw [if_neg (by simp at this; omega)]; rfl
  | a :: b :: q =>
    have e : pairL (a :: b :: q) = if (digQ a && digQ b && decide (a.toNat ≤ 53)) = true then some (10 * (a.toNat - 48) + (b.toNat - 48), q) else none := rfl
    rw [e]
    have et : takeD 2 (a :: b :: q) = run digQ [a, b] := rfl
    rw [et]
    cases ha : digQ a
    · have : run digQ [a, b] = [] := by unfold run; rw [List.takeWhile_cons_of_neg (by rw [ha]; decide)]
      rw [this]; rfl
    · cases hb : digQ b
      · have : run digQ [a, b] = [a] := by unfold run; rw [List.takeWhile_cons_of_pos ha, List.takeWhile_cons_of_neg (by rw [hb]; decide)]
        rw [this]; rfl
      · have : run digQ [a, b] = [a, b] := by unfold run; rw [List.takeWhile_cons_of_pos ha, List.takeWhile_cons_of_pos hb]; rfl
        rw [this]
        have h1 := digQ_iff.1 ha
        have h2 := digQ_iff.1 hb
        have ev : valD [a, b] = 10 * (a.toNat - 48) + (b.toNat - 48) := by
          show 10 * (10 * 0 + (a.toNat - 48)) + (b.toNat - 48) = _
          omega
        rw [ev]
        by_cases h5 : a.toNat ≤ 53
        · rw [decide_eq_true h5, if_pos (show (true && true && true) = true from rfl), if_pos ⟨rfl, by omega⟩]; rfl
        · rw [decide_eq_false h5, if_neg (by decide), if_neg (by omega)]
theorem stepB_no (r : List UInt8) (h : ¬ ((takeD 2 r).length = 2 ∧ valD (takeD 2 r) ≤ 59)) : stepB (58 :: r) = none := by rw [stepB_colon, pair_take, if_neg h]
theorem stepB_yes (r : List UInt8) (h : (takeD 2 r).length = 2 ∧ valD (takeD 2 r) ≤ 59) : stepB (58 :: r) = some (valD (takeD 2 r), r.drop 2) := by rw [stepB_colon, pair_take, if_pos h]
theorem parse_int_ok (d : List UInt8) (hd : d.all digQ = true) (hne : d ≠ []) (hl : d.length ≤ 3) (w : World) :
    Calls Tryz.prog 92 #[.string (bs d), .int .i64 10, .int .i64 64] w fun e w' => e = .returned (.tuple #[.int .i64 (valD d : Int), .nilIface]) ∧ Below w.heap.size w w' := by
  refine (Tryz.strconv_ParseInt_10_at64_ok (bs d) (by rw [bs_size]; omega) (valD d : Int) (by rw [Lib.parseIntB_64, bs_list]; exact Px.atoi_small d hd hne hl) w).mono ?_
  rintro e w' ⟨rfl, h⟩
  refine ⟨rfl, ?_⟩
  rcases h with rfl | ⟨t, rfl⟩
  · exact Below.refl _ _
  · exact Lib.bytesWorld_below _ _ _
theorem parse_int_no (w : World) (hE : EnvAt w) :
    Calls Tryz.prog 92 #[.string (bs []), .int .i64 10, .int .i64 64] w fun e w' => (∃ N, e = .returned (.tuple #[.int .i64 0, .iface 148 (.pointer (some ⟨N, 0, none⟩))])) ∧ Below w.heap.size w w' := by
  obtain ⟨te, pe, hv⟩ := hE.syn
  refine (Tryz.strconv_ParseInt_10_at64_syntax (bs []) (by rw [bs_size]; decide) (by rw [Lib.parseIntB_64]; rfl) (.iface te pe) w hv (.inr ⟨te, pe, rfl⟩)).mono ?_
  rintro e w' ⟨N, rfl, _, _, h⟩
  exact ⟨⟨N, rfl⟩, h⟩
end Go.Proofs.YtgllbagmmpicaaaGreatDoor.Off
