/- The functions offset.two and offset.Print. The function offset.Parse: amounts of time are read as the document says. The function offset.Parse: amounts of time are read as the document says. -/
import Derived.Test.YtkpmmabdpeobaaaGreatDoorSU7
import Derived.Lib.AppendIntMem
import Derived.Lib.AtoiErrMem
import Derived.Lib.ParseIntBTie
import Derived.Laws.EntriesVeiled
import Derived.Deep.CutBlock
import Derived.Deep.DeepCutAuto
namespace Go.Proofs.YtkpmmabdpeobaaaGreatDoor.Off
open Go.RowKit
open Civ
open Px (len_list bs bs_list bs_size EnvAt)
theorem dec_lib {n : Nat} (h : n < 1000) : Lib.decDigits n = dec n := by
 by_cases h1 : n < 10
 · rw [Lib.decDigits_one h1, dec_a h1]
 · by_cases h2 : n < 100
   · rw [Lib.decDigits_two h1 h2, dec_b h1 h2, dec_a (show n / 10 < 10 by omega), dec_a (show n % 10 < 10 by omega)]; rfl
   · rw [Lib.decDigits, dif_neg h1, Lib.decDigits_two (by omega) (by omega), dec_c h2 h, dec_b (n := n / 10) (by omega) (by omega), dec_a (show n / 10 / 10 < 10 by omega), dec_a (show n / 10 % 10 < 10 by omega), dec_a (show n % 10 < 10 by omega)]
     rfl
end Go.Proofs.YtkpmmabdpeobaaaGreatDoor.Off
namespace Go.Proofs.YtkpmmabdpeobaaaGreatDoor.Off
open Go.RowKit
open Civ
open Px (len_list bs bs_list bs_size But EnvAt)
def stepA (l : List UInt8) : Option (Nat × List UInt8) :=
 if takeD 3 l = [] ∨ (1 < (takeD 3 l).length ∧ (takeD 3 l).headD 0 = 48) then none else some (valD (takeD 3 l), l.drop (takeD 3 l).length)
def stepB (l : List UInt8) : Option (Nat × List UInt8) :=
 match l with
 | c :: r => if c = 58 then pairL r else none
 | [] => none
def tailW (l : List UInt8) : Option Nat :=
 if l = [] then some 0 else match stepB l with
  | none => none
  | some (m, r) => if r = [] then some (60 * m) else match stepB r with
    | none => none
    | some (s, r2) => if r2 = [] then some (60 * m + s) else none
def formW (l : List UInt8) : Option Nat :=
 match stepA l with
 | none => none
 | some (h, r) => match tailW r with
   | none => none
   | some x => some (3600 * h + x)
theorem stepB_cons (c : UInt8) (r : List UInt8) : stepB (c :: r) = if c = 58 then pairL r else none := rfl
theorem stepB_colon (r : List UInt8) : stepB (58 :: r) = pairL r := by rw [stepB_cons, if_pos rfl]
theorem stepB_other {c : UInt8} (r : List UInt8) (h : c ≠ 58) : stepB (c :: r) = none := by rw [stepB_cons, if_neg h]
theorem tailW_eq (l : List UInt8) : tailW l = tailL l := by
 unfold tailW
 cases l with
 | nil => rfl
 | cons c r =>
   rw [if_neg (by simp)]
   by_cases hc : c = 58
   · subst hc
     rw [tail_colon, stepB_colon]
     cases h : pairL r with
     | none => rfl
     | some q =>
       obtain ⟨m, r1⟩ := q
       cases r1 with
       | nil => rfl
       | cons c2 r3 =>
         dsimp only
         rw [if_neg (by simp)]
         by_cases hc2 : c2 = 58
         · subst hc2
           rw [stepB_colon, if_pos rfl]
           cases h2 : pairL r3 with
           | none => rfl
           | some q2 =>
             obtain ⟨s, r4⟩ := q2
             cases r4 with
             | nil => rfl
             | cons a b => rfl
         · rw [if_neg hc2, stepB_other _ hc2]
   · rw [tail_other _ hc, stepB_other _ hc]
theorem takeD_le (n : Nat) (l : List UInt8) : (takeD n l).length ≤ n ∧ (takeD n l).length ≤ l.length := by
 unfold takeD
 have h := congrArg List.length (Px.run_past digQ (l.take n))
 rw [List.length_append, List.length_take] at h
 omega
theorem takeD_short {n : Nat} {l : List UInt8} (h : (run digQ l).length ≤ n) : takeD n l = run digQ l := by
 unfold takeD
 have e := Px.run_past digQ l
 have h2 : l.take n = run digQ l ++ (past digQ l).take (n - (run digQ l).length) := by
  conv => lhs; rw [← e]
  rw [List.take_append, List.take_of_length_le h]
 rw [h2]
 obtain ⟨x, hx⟩ : ∃ x, (past digQ l).take (n - (run digQ l).length) = x := ⟨_, rfl⟩
 rw [hx]
 have hx2 : run digQ x = [] := by
  rw [← hx]
  cases hp : past digQ l with
  | nil => simp [run]
  | cons a r =>
    have ha : digQ a = false := by
     have := List.head_dropWhile_not (p := digQ) (l := l) (by unfold past at hp; rw [hp]; simp)
     unfold past at hp
     simpa [hp] using this
    cases n - (run digQ l).length with
    | zero => rfl
    | succ k => unfold run; rw [List.take_succ_cons, List.takeWhile_cons_of_neg (by rw [ha]; decide)]
 have hall := Px.run_all digQ l
 clear h2 e h hx
 generalize run digQ l = y at *
 induction y with
 | nil => exact hx2
 | cons a r ih =>
   rw [List.all_cons, Bool.and_eq_true] at hall
   unfold run at *
   rw [List.cons_append, List.takeWhile_cons_of_pos hall.1, ih hall.2]
theorem takeD_long {l : List UInt8} (h : 3 < (run digQ l).length) : ∃ c r, l.drop (takeD 3 l).length = c :: r ∧ digQ c = true := by
 have e := Px.run_past digQ l
 have hall := Px.run_all digQ l
 have e3 : takeD 3 l = (run digQ l).take 3 := by
  have : l.take 3 = (run digQ l).take 3 := by
   conv => lhs; rw [← e]
   rw [List.take_append_of_le_length (by omega)]
  unfold takeD
  rw [this]
  have h2 : ((run digQ l).take 3).all digQ = true := by
   rw [List.all_eq_true] at hall ⊢
   exact fun x hx => hall x (List.mem_of_mem_take hx)
  have := (run_of (p := digQ) 3 ((run digQ l).take 3) (by rw [List.length_take]; omega) (by rw [List.take_of_length_le (by rw [List.length_take]; omega)]; exact h2) (.inl (by rw [List.length_take]; omega))).1
  rw [this, List.take_of_length_le (by rw [List.length_take]; omega)]
 have el : (takeD 3 l).length = 3 := by rw [e3, List.length_take]; omega
 rw [el]
 have hd : l.drop 3 = (run digQ l).drop 3 ++ past digQ l := by
  conv => lhs; rw [← e]
  rw [List.drop_append_of_le_length (by omega)]
 cases hc : (run digQ l).drop 3 with
 | nil => have := congrArg List.length hc; rw [List.length_drop] at this; simp at this; omega
 | cons c r =>
   refine ⟨c, r ++ past digQ l, by rw [hd, hc]; rfl, ?_⟩
   rw [List.all_eq_true] at hall
   exact hall c (List.mem_of_mem_drop (by rw [hc]; simp))
theorem formW_eq (l : List UInt8) : formW l = formL l := by
 rw [formL_eq]
 unfold formW
 have hA : stepA l = if takeD 3 l = [] ∨ (1 < (takeD 3 l).length ∧ (takeD 3 l).headD 0 = 48) then none else some (valD (takeD 3 l), l.drop (takeD 3 l).length) := rfl
 by_cases h : 3 < (run digQ l).length
 · rw [if_pos (show run digQ l = [] ∨ 3 < (run digQ l).length ∨ (1 < (run digQ l).length ∧ (run digQ l).headD 0 = 48) from .inr (.inl h))]
   obtain ⟨c, r, h1, h2⟩ := takeD_long h
   by_cases hc : takeD 3 l = [] ∨ (1 < (takeD 3 l).length ∧ (takeD 3 l).headD 0 = 48)
   · rw [if_pos hc] at hA
     rw [hA]
   · rw [if_neg hc] at hA
     rw [hA]
     dsimp only
     rw [h1, tailW_eq, tail_other]
     intro e
     subst e
     cases h2
 · have e := takeD_short (n := 3) (l := l) (by omega)
   rw [e] at hA
   have hp : l.drop (run digQ l).length = past digQ l := by
    have e := Px.run_past digQ l
    conv => lhs; arg 2; rw [← e]
    rw [List.drop_left' rfl]
   by_cases hc : run digQ l = [] ∨ (1 < (run digQ l).length ∧ (run digQ l).headD 0 = 48)
   · rw [if_pos hc] at hA
     rw [hA, if_pos (by rcases hc with h | h; exact .inl h; exact .inr (.inr h))]
   · rw [if_neg hc] at hA
     rw [hA, if_neg (by rintro (h1 | h1 | h1); exact hc (.inl h1); exact h h1; exact hc (.inr h1))]
     dsimp only
     rw [hp, tailW_eq]
     cases tailL (past digQ l) <;> rfl
def Fin (l : List UInt8) (p0 p1 p2 : Nat) (r : List UInt8) : Prop := (r = [] → formL l = some (3600 * p0 + (60 * p1 + p2))) ∧ (r ≠ [] → formL l = none) ∧ p0 ≤ 999 ∧ p1 ≤ 59 ∧ p2 ≤ 59
theorem stepA_bd {l r : List UInt8} {h : Nat} (e : stepA l = some (h, r)) : h ≤ 999 ∧ r.length ≤ l.length := by
 unfold stepA at e
 split at e
 · cases e
 · simp only [Option.some.injEq, Prod.mk.injEq] at e
   obtain ⟨rfl, rfl⟩ := e
   have h1 := valD_lt (takeD 3 l) (Px.run_all _ _)
   have h2 := Nat.pow_le_pow_right (n := 10) (by decide) (takeD_le 3 l).1
   exact ⟨by omega, by rw [List.length_drop]; omega⟩
theorem stepB_bd {l r : List UInt8} {m : Nat} (e : stepB l = some (m, r)) : m ≤ 59 ∧ r.length ≤ l.length := by
 cases l with
 | nil => cases e
 | cons c q =>
   rw [stepB_cons] at e
   by_cases hc : c = 58
   · rw [if_pos hc] at e
     obtain ⟨h1, h2, h3⟩ := pairL_some e
     exact ⟨h3, by rw [h1, List.length_drop, List.length_cons]; omega⟩
   · rw [if_neg hc] at e; cases e
theorem formL_A {l r : List UInt8} {h : Nat} (e : stepA l = some (h, r)) : formL l = match tailW r with
 | none => none
 | some x => some (3600 * h + x) := by rw [← formW_eq]; unfold formW; rw [e]
theorem formL_A0 {l : List UInt8} (e : stepA l = none) : formL l = none := by rw [← formW_eq]; unfold formW; rw [e]
theorem tailW_B {l r : List UInt8} {m : Nat} (hne : l ≠ []) (e : stepB l = some (m, r)) : tailW l = if r = [] then some (60 * m) else match stepB r with
      | none => none
      | some (s, r2) => if r2 = [] then some (60 * m + s) else none := by unfold tailW; rw [if_neg hne, e]
theorem tailW_B0 {l : List UInt8} (hne : l ≠ []) (e : stepB l = none) : tailW l = none := by unfold tailW; rw [if_neg hne, e]
theorem fin1 {l : List UInt8} {h : Nat} (e : stepA l = some (h, [])) : Fin l h 0 0 [] :=
 ⟨fun _ => by rw [formL_A e]; rfl, fun h => absurd rfl h, (stepA_bd e).1, by omega, by omega⟩
theorem fin2 {l r : List UInt8} {h m : Nat} (e : stepA l = some (h, r)) (hne : r ≠ []) (e2 : stepB r = some (m, [])) : Fin l h m 0 [] :=
 ⟨fun _ => by rw [formL_A e, tailW_B hne e2, if_pos rfl]; rfl, fun h => absurd rfl h, (stepA_bd e).1, (stepB_bd e2).1, by omega⟩
theorem fin3 {l r r2 r3 : List UInt8} {h m s : Nat} (e : stepA l = some (h, r)) (hne : r ≠ []) (e2 : stepB r = some (m, r2)) (hne2 : r2 ≠ []) (e3 : stepB r2 = some (s, r3)) : Fin l h m s r3 := by
 refine ⟨fun h => ?_, fun h => ?_, (stepA_bd e).1, (stepB_bd e2).1, (stepB_bd e3).1⟩
 · rw [formL_A e, tailW_B hne e2, if_neg hne2, e3]; dsimp only; rw [if_pos h]
 · rw [formL_A e, tailW_B hne e2, if_neg hne2, e3]; dsimp only; rw [if_neg h]
theorem bad2 {l r : List UInt8} {h : Nat} (e : stepA l = some (h, r)) (hne : r ≠ []) (e2 : stepB r = none) : formL l = none := by rw [formL_A e, tailW_B0 hne e2]
theorem bad3 {l r r2 : List UInt8} {h m : Nat} (e : stepA l = some (h, r)) (hne : r ≠ []) (e2 : stepB r = some (m, r2)) (hne2 : r2 ≠ []) (e3 : stepB r2 = none) : formL l = none := by rw [formL_A e, tailW_B hne e2, if_neg hne2, e3]
theorem pair_take (r : List UInt8) : pairL r = if (takeD 2 r).length = 2 ∧ valD (takeD 2 r) ≤ 59 then some (valD (takeD 2 r), r.drop 2) else none := by
 match r with
 | [] => rfl
 | [a] =>
   have := (takeD_le 2 [a]).2
   rw [if_neg (by simp at this; omega)]; rfl
 | a :: b :: q =>
   have e : pairL (a :: b :: q) = if (digQ a && digQ b && decide (a.toNat ≤ 53)) = true then some (10 * (a.toNat - 48) + (b.toNat - 48), q) else none := rfl
   rw [e]
   have et : takeD 2 (a :: b :: q) = run digQ [a, b] := rfl
   rw [et]
   cases ha : digQ a
   · have : run digQ [a, b] = [] := by unfold run; rw [List.takeWhile_cons_of_neg (by rw [ha]; decide)]
     rw [this]; rfl
   · cases hb : digQ b
     · have : run digQ [a, b] = [a] := by unfold run; rw [List.takeWhile_cons_of_pos ha, List.takeWhile_cons_of_neg (by rw [hb]; decide)]
       rw [this]; rfl
     · have : run digQ [a, b] = [a, b] := by unfold run; rw [List.takeWhile_cons_of_pos ha, List.takeWhile_cons_of_pos hb]; rfl
       rw [this]
       have h1 := digQ_iff.1 ha
       have h2 := digQ_iff.1 hb
       have ev : valD [a, b] = 10 * (a.toNat - 48) + (b.toNat - 48) := by
        show 10 * (10 * 0 + (a.toNat - 48)) + (b.toNat - 48) = _
        omega
       rw [ev]
       by_cases h5 : a.toNat ≤ 53
       · rw [decide_eq_true h5, if_pos (show (true && true && true) = true from rfl), if_pos ⟨rfl, by omega⟩]; rfl
       · rw [decide_eq_false h5, if_neg (by decide), if_neg (by omega)]
theorem stepB_no (r : List UInt8) (h : ¬ ((takeD 2 r).length = 2 ∧ valD (takeD 2 r) ≤ 59)) : stepB (58 :: r) = none := by rw [stepB_colon, pair_take, if_neg h]
theorem stepB_yes (r : List UInt8) (h : (takeD 2 r).length = 2 ∧ valD (takeD 2 r) ≤ 59) : stepB (58 :: r) = some (valD (takeD 2 r), r.drop 2) := by rw [stepB_colon, pair_take, if_pos h]
theorem parse_int_ok (d : List UInt8) (hd : d.all digQ = true) (hne : d ≠ []) (hl : d.length ≤ 3) (w : World) :
 Calls Tryz.prog 143 #[.string (bs d), .int .i64 10, .int .i64 64] w fun e w' => e = .returned (.tuple #[.int .i64 (valD d : Int), .nilIface]) ∧ Below w.heap.size w w' := by
 refine (Tryz.strconv_ParseInt_10_at64_ok (bs d) (by rw [bs_size]; omega) (valD d : Int) (by rw [Lib.parseIntB_64, bs_list]; exact Px.atoi_small d hd hne hl) w).mono ?_
 rintro e w' ⟨rfl, h⟩
 refine ⟨rfl, ?_⟩
 rcases h with rfl | ⟨t, rfl⟩
 · exact Below.refl _ _
 · exact Lib.bytesWorld_below _ _ _
theorem parse_int_no (w : World) (hE : EnvAt w) :
 Calls Tryz.prog 143 #[.string (bs []), .int .i64 10, .int .i64 64] w fun e w' => (∃ N, e = .returned (.tuple #[.int .i64 0, .iface 234 (.pointer (some ⟨N, 0, none⟩))])) ∧ Below w.heap.size w w' := by
 obtain ⟨te, pe, hv⟩ := hE.syn
 refine (Tryz.strconv_ParseInt_10_at64_syntax (bs []) (by rw [bs_size]; decide) (by rw [Lib.parseIntB_64]; rfl) (.iface te pe) w hv (.inr ⟨te, pe, rfl⟩)).mono ?_
 rintro e w' ⟨N, rfl, _, _, h⟩
 exact ⟨⟨N, rfl⟩, h⟩
end Go.Proofs.YtkpmmabdpeobaaaGreatDoor.Off
namespace Go.Proofs.YtkpmmabdpeobaaaGreatDoor.Off
open Go.RowKit
open Civ
open Px (len_list bs bs_list bs_size But EnvAt)
def PartsAt (w : World) (b : Nat) (x y z : Nat) : Prop := w.heap[b]? = some (.cells #[.int .i64 (x : Int), .int .i64 (y : Int), .int .i64 (z : Int)] 184 (0, 0))
theorem PartsAt.row {w : World} {b x y z : Nat} (h : PartsAt w b x y z) : (w.cell? ⟨b, 0, none⟩ = some (.int .i64 (x : Int)) ∧ w.cell? ⟨b, 1, none⟩ = some (.int .i64 (y : Int)) ∧ w.cell? ⟨b, 2, none⟩ = some (.int .i64 (z : Int))) ∧ w.frozen? ⟨b, 0, none⟩ = false ∧ w.frozen? ⟨b, 1, none⟩ = false ∧ w.frozen? ⟨b, 2, none⟩ = false :=
 ⟨⟨Px.cells_at h 0, Px.cells_at h 1, Px.cells_at h 2⟩, Px.free_at h 0, Px.free_at h 1, Px.free_at h 2⟩
theorem PartsAt.keep {w w' : World} {b x y z : Nat} (h : PartsAt w b x y z) (hB : Below w.heap.size w w') : PartsAt w' b x y z := (hB.block b (lt_of_block h)).trans h
structure OpInv (w : World) (x y z : Nat) (l : List UInt8) (wr : World) : Prop where
 below : Below w.heap.size w wr
 rest : VarAt wr w.heap.size l
 parts : PartsAt wr (w.heap.size + 1) x y z
theorem OpInv.keep {w : World} {x y z : Nat} {l : List UInt8} {wr W : World} (h : OpInv w x y z l wr) (hB : Below wr.heap.size wr W) : OpInv w x y z l W :=
 ⟨h.below.trans (hB.mono h.below.size), h.rest.keep hB, h.parts.keep hB⟩
theorem OpInv.cut {w : World} {x y z : Nat} {l m : List UInt8} {wr W : World} (h : OpInv w x y z l wr) (hB : But w.heap.size wr W) (hV : VarAt W w.heap.size m) : OpInv w x y z m W :=
 ⟨h.below.trans (hB.low (Nat.le_refl _)), hV, hB.heap h.parts (by omega)⟩
theorem OpInv.setK {w : World} {x y z : Nat} {l : List UInt8} {wr : World} (h : OpInv w x y z l wr) (i : Nat) (u : Value) : Below w.heap.size w (wr.setCell ⟨w.heap.size + 1, i, none⟩ u) ∧ VarAt (wr.setCell ⟨w.heap.size + 1, i, none⟩ u) w.heap.size l :=
 ⟨h.below.setCell (by show w.heap.size ≤ w.heap.size + 1; omega) u, (Below.heap_setCell _ _ _ _ (by show w.heap.size ≠ w.heap.size + 1; omega)).trans h.rest⟩
theorem OpInv.set0 {w : World} {x y z : Nat} {l : List UInt8} {wr : World} (h : OpInv w x y z l wr) (m : Nat) : OpInv w m y z l (wr.setCell ⟨w.heap.size + 1, 0, none⟩ (.int .i64 (m : Int))) :=
 ⟨(h.setK 0 _).1, (h.setK 0 _).2, Px.cells_set h.parts 0 _⟩
theorem OpInv.set1 {w : World} {x y z : Nat} {l : List UInt8} {wr : World} (h : OpInv w x y z l wr) (m : Nat) : OpInv w x m z l (wr.setCell ⟨w.heap.size + 1, 1, none⟩ (.int .i64 (m : Int))) :=
 ⟨(h.setK 1 _).1, (h.setK 1 _).2, Px.cells_set h.parts 1 _⟩
theorem OpInv.set2 {w : World} {x y z : Nat} {l : List UInt8} {wr : World} (h : OpInv w x y z l wr) (m : Nat) : OpInv w x y m l (wr.setCell ⟨w.heap.size + 1, 2, none⟩ (.int .i64 (m : Int))) :=
 ⟨(h.setK 2 _).1, (h.setK 2 _).2, Px.cells_set h.parts 2 _⟩
theorem stepA_no {l d : List UInt8} (hd : takeD 3 l = d) (h : d = [] ∨ (1 < d.length ∧ d.headD 0 = 48)) : stepA l = none := by subst hd; unfold stepA; rw [if_pos h]
theorem stepA_yes {l d : List UInt8} (hd : takeD 3 l = d) (h1 : d ≠ []) (h2 : ¬ (1 < d.length ∧ d.headD 0 = 48)) : stepA l = some (valD d, l.drop d.length) := by
 subst hd; unfold stepA; rw [if_neg (by rintro (h | h); exact h1 h; exact h2 h)]
theorem head_at {d : List UInt8} (h : 0 < (bs d).size) : (bs d)[0] = d.headD 0 := by
 have := headD_zero (bs d) h
 rw [bs_list] at this
 exact this.symm
theorem head_good {d : List UInt8} (hbad : ¬ (1 < d.length ∧ d.headD 0 = 48)) : ((bs d).size : Int) ≤ 1 ∨ ((1 : Int) < ((bs d).size : Int) ∧ ∃ h : 0 < (bs d).size, (((bs d)[0].toNat : Int) == 48) = false) := by
 have hz := bs_size d
 by_cases h1 : d.length ≤ 1
 · left; omega
 · right
   refine ⟨by omega, by omega, ?_⟩
   rw [beq_eq_false_iff_ne, head_at]
   intro h
   exact hbad ⟨by omega, UInt8.toNat_inj.1 (by have : (48 : UInt8).toNat = 48 := rfl; omega)⟩
theorem head_bad {d : List UInt8} (h1 : 1 < d.length) (h2 : d.headD 0 = 48) : (1 : Int) < ((bs d).size : Int) ∧ ∃ h : 0 < (bs d).size, (((bs d)[0].toNat : Int) == 48) = true := by
 have hz := bs_size d
 refine ⟨by omega, by omega, ?_⟩
 rw [head_at, h2]; rfl
theorem OpInv.setR {w : World} {x y z : Nat} {l : List UInt8} {wr : World} (h : OpInv w x y z l wr) (m : List UInt8) : OpInv w x y z m (wr.setCell ⟨w.heap.size, 0, none⟩ (.string (bs m))) :=
 ⟨h.below.setCell (Nat.le_refl _) _, h.rest.set m, (Below.heap_setCell _ _ _ _ (by show w.heap.size + 1 ≠ w.heap.size; omega)).trans h.parts⟩
def SS (l : List UInt8) (k x y z : Nat) (r : List UInt8) : Prop :=
 (k = 0 ∧ x = 0 ∧ y = 0 ∧ z = 0 ∧ r = l) ∨ (k = 1 ∧ stepA l = some (x, r) ∧ y = 0 ∧ z = 0) ∨
 (k = 2 ∧ ∃ q, stepA l = some (x, q) ∧ q ≠ [] ∧ stepB q = some (y, r) ∧ z = 0) ∨
 (k = 3 ∧ ∃ q q2, stepA l = some (x, q) ∧ q ≠ [] ∧ stepB q = some (y, q2) ∧ q2 ≠ [] ∧ stepB q2 = some (z, r))
theorem bs_emp {r : List UInt8} (h : r = []) : (bs r).toList.isEmpty = true ∧ (bs r).toList = [] := by
 subst h; exact ⟨by rw [ByteArray.toList_eq, bs_list]; rfl, by rw [ByteArray.toList_eq, bs_list]⟩
theorem bs_full {r : List UInt8} (h : r ≠ []) : (bs r).toList.isEmpty = false := by rw [ByteArray.toList_eq, bs_list]; simpa using h
theorem fin_minus {l r : List UInt8} {x y z : Nat} (h : Fin l x y z r) :
 ((bs r).toList.isEmpty = false ∧ Hid (parseO (45 :: l) = (0, 5))) ∨
 ((bs r).toList.isEmpty = true ∧ (bs r).toList = [] ∧ (((x : Int) * 3600 + (y : Int) * 60 + (z : Int)) == 0) = true ∧ Hid (parseO (45 :: l) = (0, 5))) ∨
 ((bs r).toList.isEmpty = true ∧ (bs r).toList = [] ∧ (((x : Int) * 3600 + (y : Int) * 60 + (z : Int)) == 0) = false ∧ 604799 < (x : Int) * 3600 + (y : Int) * 60 + (z : Int) ∧ Hid (parseO (45 :: l) = (0, 3))) ∨
 ((bs r).toList.isEmpty = true ∧ (bs r).toList = [] ∧ (((x : Int) * 3600 + (y : Int) * 60 + (z : Int)) == 0) = false ∧ (x : Int) * 3600 + (y : Int) * 60 + (z : Int) ≤ 604799 ∧ Hid (parseO (45 :: l) = (-((x : Int) * 3600 + (y : Int) * 60 + (z : Int)), 0))) := by
 obtain ⟨h1, h2, _, _, _⟩ := h
 have hh : (45 :: l).headD 0 = 45 := rfl
 by_cases hr : r = []
 · have hp := parseO_some (l := 45 :: l) (x := 3600 * x + (60 * y + z)) (by rw [if_pos hh]; exact h1 hr)
   obtain ⟨e1, e2⟩ := bs_emp hr
   right
   by_cases h0 : 3600 * x + (60 * y + z) = 0
   · left
     exact ⟨e1, e2, by rw [beq_iff_eq]; omega, Lib.hid (by rw [hp, if_pos ⟨hh, h0⟩])⟩
   · right
     have hb : (((x : Int) * 3600 + (y : Int) * 60 + (z : Int)) == 0) = false := by rw [beq_eq_false_iff_ne]; omega
     by_cases hx : 604799 < 3600 * x + (60 * y + z)
     · left; exact ⟨e1, e2, hb, by omega, Lib.hid (by rw [hp, if_neg (fun h => h0 h.2), if_pos hx])⟩
     · right
       exact ⟨e1, e2, hb, by omega, Lib.hid (by rw [hp, if_neg (fun h => h0 h.2), if_neg hx, if_pos hh]; exact congrArg (fun q : Int => (q, (0 : Int))) (by omega))⟩
 · left
   exact ⟨bs_full hr, Lib.hid (parseO_no (by rw [if_pos hh]; exact h2 hr))⟩
theorem fin_plus {l r : List UInt8} {x y z : Nat} (hh : ¬ l.headD 0 = 45) (h : Fin l x y z r) :
 ((bs r).toList.isEmpty = false ∧ Hid (parseO l = (0, 5))) ∨
 ((bs r).toList.isEmpty = true ∧ (bs r).toList = [] ∧ 604799 < (x : Int) * 3600 + (y : Int) * 60 + (z : Int) ∧ Hid (parseO l = (0, 3))) ∨
 ((bs r).toList.isEmpty = true ∧ (bs r).toList = [] ∧ (x : Int) * 3600 + (y : Int) * 60 + (z : Int) ≤ 604799 ∧ Hid (parseO l = (((x : Int) * 3600 + (y : Int) * 60 + (z : Int)), 0))) := by
 obtain ⟨h1, h2, _, _, _⟩ := h
 by_cases hr : r = []
 · have hp := parseO_some (l := l) (x := 3600 * x + (60 * y + z)) (by rw [if_neg hh]; exact h1 hr)
   obtain ⟨e1, e2⟩ := bs_emp hr
   right
   by_cases hx : 604799 < 3600 * x + (60 * y + z)
   · left; exact ⟨e1, e2, by omega, Lib.hid (by rw [hp, if_neg (fun h => hh h.1), if_pos hx])⟩
   · right
     exact ⟨e1, e2, by omega, Lib.hid (by rw [hp, if_neg (fun h => hh h.1), if_neg hx, if_neg hh]; exact congrArg (fun q : Int => (q, (0 : Int))) (by omega))⟩
 · left
   exact ⟨bs_full hr, Lib.hid (parseO_no (by rw [if_neg hh]; exact h2 hr))⟩
set_option maxHeartbeats 4000000 in
set_option maxRecDepth 100000 in
theorem parse_minus (l : List UInt8) (hlz : l.length ≤ 1000000) (w : World) (hE : EnvAt w) :
 Calls Tryz.prog 98 #[.string (bs (45 :: l))] w (parsePost (45 :: l) w) := by
 have hxz : (bs (45 :: l)).size = l.length + 1 := by rw [bs_size]; rfl
 have hxe : (bs (45 :: l)).toList.isEmpty = false := by rw [ByteArray.toList_eq, bs_list]; rfl
 have hx0 : ∃ h : 0 < (bs (45 :: l)).size, (((bs (45 :: l))[0].toNat : Int) == 45) = true := ⟨by omega, by rw [head_at]; rfl⟩
 have hxt : (bs (45 :: l)).extract 1 (bs (45 :: l)).size = bs l := by rw [Lib.extract_from]; rfl
 have HPN := Lib.hid (fun h : formL l = none => parseO_no (l := 45 :: l) (by rw [if_pos (by rfl)]; exact h))
 have HFC := Lib.hid (fun x y z r (h : Fin l x y z r) => fin_minus h)
 obtain ⟨X, hX⟩ : ∃ X, bs (45 :: l) = X := ⟨_, rfl⟩
 rw [hX] at hxz hxe hx0 hxt ⊢
 obtain ⟨h0, t0⟩ := hx0
 have i0 : (0 : Int) < (X.size : Int) := by omega
 have i1 : (1 : Int) ≤ (X.size : Int) := by omega
 have HX := Lib.hid hxt
 clear hxt hX hxz
 have HENV := Lib.hid hE
 clear hE
 go_enter Tryz.func98, Tryz.ntmps98
 go_upto_block 0 with fail
 rw [HX.out]
 have HI : Hid (OpInv w 0 0 0 l ((w.alloc (.cells #[.string (bs l)] 9)).alloc (.cells #[.int .i64 0, .int .i64 0, .int .i64 0] 184))) := Lib.hid ⟨((Below.refl _ w).alloc (Nat.le_refl _) _).alloc (by simp) _, Px.heap_old (Px.heap_new w _) _, by have := Px.heap_new (w.alloc (.cells #[.string (bs l)] 9)) (.cells #[.int .i64 0, .int .i64 0, .int .i64 0] 184); rwa [show (w.alloc (.cells #[.string (bs l)] 9)).heap.size = w.heap.size + 1 by simp] at this⟩
 go_cut [28] (fun _ wx => ∃ x y z r, Fin l x y z r ∧ OpInv w x y z r wx)
 case first =>
  go_wp2_with fail
  go_loopw [28] (fun i wx => ∃ (k x y z : Nat) (r : List UInt8), i = .int .i64 (k : Int) ∧ SS l k x y z r ∧ r.length ≤ 1000000 ∧ OpInv w x y z r wx) (fun i _ => 3 - (intOf i).toNat)
  case atStart => exact ⟨0, 0, 0, 0, l, rfl, .inl ⟨rfl, rfl, rfl, rfl, rfl⟩, hlz, HI.out⟩
  case round =>
   obtain ⟨k, x, y, z, r, rfl, hss, hrz, hI⟩ := hrel
   have HIR := Lib.hid hI
   obtain ⟨c0, g0⟩ := hI.rest.row
   obtain ⟨⟨d0, d1, d2⟩, f0, f1, f2⟩ := hI.parts.row
   clear hI
   rcases hss with ⟨rfl, rfl, rfl, rfl, rfl⟩ | ⟨rfl, hA, rfl, rfl⟩ | ⟨rfl, q, hA, hq, hB, rfl⟩ | ⟨rfl, q, q2, hA, hq, hB, hq2, hC⟩
   · have CD := Lib.hid (digits_any 3 (by decide) (by decide) w.heap.size r hrz)
     obtain ⟨d, hd⟩ : ∃ d, takeD 3 r = d := ⟨_, rfl⟩
     rw [show (3 : Int).toNat = 3 from rfl, hd] at CD
     have hdd : d.all digQ = true := by rw [← hd]; exact Px.run_all _ _
     have hdl : d.length ≤ 3 ∧ d.length ≤ r.length := by rw [← hd]; exact takeD_le 3 r
     go_wp2_with fail
     refine (CD.out _ HIR.out.rest).mono ?_
     rintro e V ⟨rfl, hb, hv⟩
     have HIV := Lib.hid (HIR.out.cut hb hv)
     have HEV := Lib.hid (HENV.out.keep HIV.out.below)
     clear hb hv c0 g0 d0 d1 d2 f0 f1 f2
     obtain ⟨c0, g0⟩ := HIV.out.rest.row
     obtain ⟨⟨d0, d1, d2⟩, f0, f1, f2⟩ := HIV.out.parts.row
     by_cases hne : d = []
     · have HN := Lib.hid (formL_A0 (stepA_no hd (.inl hne)))
       subst hne
       clear hdd hdl hd
       go_wp2_with fail
       refine (parse_int_no _ HEV.out).mono ?_
       rintro e V2 ⟨⟨N, rfl⟩, hb⟩
       have HI2 := Lib.hid (HIV.out.keep hb)
       clear hb
       go_wp2_with fail
       go_ret2
       exact parse_post (HPN.out HN.out) rfl rfl HI2.out.below
     · have CP := Lib.hid (fun w => parse_int_ok d hdd hne hdl.1 w)
       have hv := valD_lt d hdd
       have hv2 := Nat.pow_le_pow_right (n := 10) (by decide) hdl.1
       have hv3 : valD d ≤ 999 := by omega
       have hz : (bs d).size = d.length := bs_size d
       have hd0 : 0 < d.length := List.length_pos_iff.2 hne
       by_cases hbad : 1 < d.length ∧ d.headD 0 = 48
       · have HN := Lib.hid (formL_A0 (stepA_no hd (.inr hbad)))
         have hb2 := head_bad hbad.1 hbad.2
         obtain ⟨D, hD⟩ : ∃ D, bs d = D := ⟨_, rfl⟩
         rw [hD] at CD CP hb2
         obtain ⟨j1, j0, j2⟩ := hb2
         rw [hD]
         clear hbad hd hdd hdl hne hd0 hz hv hv2 hD
         go_wp2_with fail
         refine (CP.out _).mono ?_
         rintro e V2 ⟨rfl, hb⟩
         have HI2 := Lib.hid (HIV.out.keep hb)
         clear hb
         go_wp2_with fail
         go_ret2
         exact parse_post (HPN.out HN.out) rfl rfl HI2.out.below
       · have HN := Lib.hid (stepA_yes hd hne hbad)
         have hgood := head_good hbad
         have hrl : (r.drop d.length).length ≤ 1000000 := by rw [List.length_drop]; omega
         obtain ⟨m, hm⟩ : ∃ m, valD d = m := ⟨_, rfl⟩
         rw [hm] at CP HN hv3
         obtain ⟨r1, hr1⟩ : ∃ r1, r.drop d.length = r1 := ⟨_, rfl⟩
         rw [hr1] at HN HIV c0 hrl
         obtain ⟨D, hD⟩ : ∃ D, bs d = D := ⟨_, rfl⟩
         rw [hD] at CD CP hz hgood
         rw [hD]
         clear hbad hd hdd hdl hne hd0 hz hv hv2 hD hm hr1
         rcases hgood with j1 | ⟨j1, j0, j2⟩
         all_goals
          go_wp2_with fail
          refine (CP.out _).mono ?_
          rintro e V2 ⟨rfl, hb⟩
          have HI2 := Lib.hid (HIV.out.keep hb)
          clear hb c0 g0 d0 d1 d2 f0 f1 f2
          obtain ⟨⟨d0, d1, d2⟩, f0, f1, f2⟩ := HI2.out.parts.row
          go_wp2_with fail
          exact ⟨⟨1, m, 0, 0, r1, rfl, .inr (.inl ⟨rfl, HN.out, rfl, rfl⟩), hrl, HI2.out.set0 m⟩, by decide⟩
   · skip
     by_cases hr : r = []
     · subst hr
       have HF := Lib.hid (fin1 hA)
       clear hA
       have e0 : (bs []).toList.isEmpty = true := by rw [ByteArray.toList_eq, bs_list]; rfl
       have e1 : (bs []).toList = [] := by rw [ByteArray.toList_eq, bs_list]
       go_wp2_with fail
       go_meet
       exact ⟨_, _, _, [], HF.out, HIR.out⟩
     · obtain ⟨c, t, rfl⟩ := List.exists_cons_of_ne_nil hr
       have HNO := Lib.hid (fun h : stepB (c :: t) = none => HPN.out (bad2 hA hr h))
       have HYES := Lib.hid (fun (m : Nat) (u : List UInt8) (h : stepB (c :: t) = some (m, u)) => show SS l 2 x m 0 u from .inr (.inr (.inl ⟨rfl, _, hA, hr, h, rfl⟩)))
       clear hA
       have hx0 : 0 < (bs (c :: t)).size := by rw [bs_size]; simp
       have hxc : (bs (c :: t))[0] = c := head_at hx0
       have hxe : (bs (c :: t)).toList.isEmpty = false := by rw [ByteArray.toList_eq, bs_list]; rfl
       have hxt : (bs (c :: t)).extract 1 (bs (c :: t)).size = bs t := by rw [Lib.extract_from]; rfl
       have hx1 : (1 : Int) ≤ ((bs (c :: t)).size : Int) := by omega
       have htz : t.length ≤ 1000000 := by rw [List.length_cons] at hrz; omega
       obtain ⟨X, hX⟩ : ∃ X, bs (c :: t) = X := ⟨_, rfl⟩
       rw [hX] at c0 hx1
       by_cases hc : c = 58
       · subst hc
         have hx58 : ∃ h : 0 < X.size, ((X[0].toNat : Int) != 58) = false := by
          subst hX
          exact ⟨hx0, by rw [hxc]; rfl⟩
         rw [hX] at hxe hxt
         obtain ⟨hx2, hx3⟩ := hx58
         have HXT := Lib.hid hxt
         have CD := Lib.hid (digits_any 2 (by decide) (by decide) w.heap.size t htz)
         have HSR := Lib.hid (HIR.out.setR t)
         obtain ⟨d, hd⟩ : ∃ d, takeD 2 t = d := ⟨_, rfl⟩
         rw [show (2 : Int).toNat = 2 from rfl, hd] at CD
         have hdd : d.all digQ = true := by rw [← hd]; exact Px.run_all _ _
         have hdl : d.length ≤ 2 ∧ d.length ≤ t.length := by rw [← hd]; exact takeD_le 2 t
         have HN1 := Lib.hid (fun h : ¬ (d.length = 2 ∧ valD d ≤ 59) => HNO.out (stepB_no t (by rw [hd]; exact h)))
         have HN2 := Lib.hid (fun h : d.length = 2 ∧ valD d ≤ 59 => HYES.out (valD d) (t.drop 2) (by rw [stepB_yes t (by rw [hd]; exact h), hd]))
         clear hxt hX hx0 hxc hr hd
         go_wp2_with fail
         rw [HXT.out]
         refine (CD.out _ HSR.out.rest).mono ?_
         rintro e V ⟨rfl, hb, hv⟩
         have HIV := Lib.hid (HSR.out.cut hb hv)
         have HEV := Lib.hid (HENV.out.keep HIV.out.below)
         clear hb hv c0 g0 d0 d1 d2 f0 f1 f2 hxe hx1 hx3
         obtain ⟨c0, g0⟩ := HIV.out.rest.row
         obtain ⟨⟨d0, d1, d2⟩, f0, f1, f2⟩ := HIV.out.parts.row
         by_cases hne : d = []
         · have HN := Lib.hid (HN1.out (by rw [hne]; decide))
           subst hne
           clear hdd hdl
           go_wp2_with fail
           refine (parse_int_no _ HEV.out).mono ?_
           rintro e V2 ⟨⟨N, rfl⟩, hb⟩
           have HI2 := Lib.hid (HIV.out.keep hb)
           clear hb
           go_wp2_with fail
           go_ret2
           exact parse_post HN.out rfl rfl HI2.out.below
         · have CP := Lib.hid (fun w => parse_int_ok d hdd hne (by omega) w)
           have hz : (bs d).size = d.length := bs_size d
           have hv := valD_lt d hdd
           have hv2 := Nat.pow_le_pow_right (n := 10) (by decide) hdl.1
           have hv3 : (valD d : Int) ≤ 99 := by omega
           clear hv hv2 hdd hne
           by_cases h2 : d.length = 2
           · have j1 : (((bs d).size : Int) != 2) = false := by rw [bne_eq_false_iff_eq]; omega
             by_cases h59 : valD d ≤ 59
             · have HSS := Lib.hid (HN2.out ⟨h2, h59⟩)
               have hdt : t.drop d.length = t.drop 2 := by rw [h2]
               rw [hdt] at HIV c0
               have j2 : (valD d : Int) ≤ 59 := by omega
               have hrl : (t.drop 2).length ≤ 1000000 := by rw [List.length_drop]; omega
               obtain ⟨m, hm⟩ : ∃ m, valD d = m := ⟨_, rfl⟩
               rw [hm] at CP j2 hv3 HSS
               obtain ⟨r1, hr1⟩ : ∃ r1, t.drop 2 = r1 := ⟨_, rfl⟩
               rw [hr1] at HIV c0 hrl HSS
               obtain ⟨D, hD⟩ : ∃ D, bs d = D := ⟨_, rfl⟩
               rw [hD] at CP j1 ⊢
               clear h2 h59 hm hr1 hD hz hdl hdt
               go_wp2_with fail
               refine (CP.out _).mono ?_
               rintro e V2 ⟨rfl, hb⟩
               have HI2 := Lib.hid (HIV.out.keep hb)
               clear hb c0 g0 d0 d1 d2 f0 f1 f2
               obtain ⟨⟨d0, d1, d2⟩, f0, f1, f2⟩ := HI2.out.parts.row
               go_wp2_with fail
               exact ⟨⟨2, _, _, _, r1, rfl, HSS.out, hrl, HI2.out.set1 m⟩, by decide⟩
             · have HN := Lib.hid (HN1.out (fun h => h59 h.2))
               have j2 : (59 : Int) < (valD d : Int) := by omega
               obtain ⟨m, hm⟩ : ∃ m, valD d = m := ⟨_, rfl⟩
               rw [hm] at CP j2 hv3
               obtain ⟨D, hD⟩ : ∃ D, bs d = D := ⟨_, rfl⟩
               rw [hD] at CP j1 ⊢
               clear h2 h59 hm hD hz hdl
               go_wp2_with fail
               refine (CP.out _).mono ?_
               rintro e V2 ⟨rfl, hb⟩
               have HI2 := Lib.hid (HIV.out.keep hb)
               clear hb
               go_wp2_with fail
               go_ret2
               exact parse_post HN.out rfl rfl HI2.out.below
           · have j1 : (((bs d).size : Int) != 2) = true := by rw [bne_iff_ne]; omega
             have HN := Lib.hid (HN1.out (fun h => h2 h.1))
             obtain ⟨m, hm⟩ : ∃ m, valD d = m := ⟨_, rfl⟩
             rw [hm] at CP hv3
             obtain ⟨D, hD⟩ : ∃ D, bs d = D := ⟨_, rfl⟩
             rw [hD] at CP j1 ⊢
             clear h2 hm hD hz hdl
             go_wp2_with fail
             refine (CP.out _).mono ?_
             rintro e V2 ⟨rfl, hb⟩
             have HI2 := Lib.hid (HIV.out.keep hb)
             clear hb
             go_wp2_with fail
             go_ret2
             exact parse_post HN.out rfl rfl HI2.out.below
       · have HN := Lib.hid (HNO.out (stepB_other t hc))
         have hx58 : ∃ h : 0 < X.size, ((X[0].toNat : Int) != 58) = true := by
          subst hX
          refine ⟨hx0, ?_⟩
          rw [hxc, bne_iff_ne]
          intro h
          exact hc (UInt8.toNat_inj.1 (by have : (58 : UInt8).toNat = 58 := rfl; omega))
         rw [hX] at hxe
         obtain ⟨hx2, hx3⟩ := hx58
         clear hxt hX hx0 hxc hr hc
         go_wp2_with fail
         go_ret2
         exact parse_post HN.out rfl rfl HIR.out.below
   · skip
     by_cases hr : r = []
     · subst hr
       have HF := Lib.hid (fin2 hA hq hB)
       clear hA hB hq
       have e0 : (bs []).toList.isEmpty = true := by rw [ByteArray.toList_eq, bs_list]; rfl
       have e1 : (bs []).toList = [] := by rw [ByteArray.toList_eq, bs_list]
       go_wp2_with fail
       go_meet
       exact ⟨_, _, _, [], HF.out, HIR.out⟩
     · obtain ⟨c, t, rfl⟩ := List.exists_cons_of_ne_nil hr
       have HNO := Lib.hid (fun h : stepB (c :: t) = none => HPN.out (bad3 hA hq hB hr h))
       have HYES := Lib.hid (fun (m : Nat) (u : List UInt8) (h : stepB (c :: t) = some (m, u)) => show SS l 3 x y m u from .inr (.inr (.inr ⟨rfl, _, _, hA, hq, hB, hr, h⟩)))
       clear hA hB hq
       have hx0 : 0 < (bs (c :: t)).size := by rw [bs_size]; simp
       have hxc : (bs (c :: t))[0] = c := head_at hx0
       have hxe : (bs (c :: t)).toList.isEmpty = false := by rw [ByteArray.toList_eq, bs_list]; rfl
       have hxt : (bs (c :: t)).extract 1 (bs (c :: t)).size = bs t := by rw [Lib.extract_from]; rfl
       have hx1 : (1 : Int) ≤ ((bs (c :: t)).size : Int) := by omega
       have htz : t.length ≤ 1000000 := by rw [List.length_cons] at hrz; omega
       obtain ⟨X, hX⟩ : ∃ X, bs (c :: t) = X := ⟨_, rfl⟩
       rw [hX] at c0 hx1
       by_cases hc : c = 58
       · subst hc
         have hx58 : ∃ h : 0 < X.size, ((X[0].toNat : Int) != 58) = false := by
          subst hX
          exact ⟨hx0, by rw [hxc]; rfl⟩
         rw [hX] at hxe hxt
         obtain ⟨hx2, hx3⟩ := hx58
         have HXT := Lib.hid hxt
         have CD := Lib.hid (digits_any 2 (by decide) (by decide) w.heap.size t htz)
         have HSR := Lib.hid (HIR.out.setR t)
         obtain ⟨d, hd⟩ : ∃ d, takeD 2 t = d := ⟨_, rfl⟩
         rw [show (2 : Int).toNat = 2 from rfl, hd] at CD
         have hdd : d.all digQ = true := by rw [← hd]; exact Px.run_all _ _
         have hdl : d.length ≤ 2 ∧ d.length ≤ t.length := by rw [← hd]; exact takeD_le 2 t
         have HN1 := Lib.hid (fun h : ¬ (d.length = 2 ∧ valD d ≤ 59) => HNO.out (stepB_no t (by rw [hd]; exact h)))
         have HN2 := Lib.hid (fun h : d.length = 2 ∧ valD d ≤ 59 => HYES.out (valD d) (t.drop 2) (by rw [stepB_yes t (by rw [hd]; exact h), hd]))
         clear hxt hX hx0 hxc hr hd
         go_wp2_with fail
         rw [HXT.out]
         refine (CD.out _ HSR.out.rest).mono ?_
         rintro e V ⟨rfl, hb, hv⟩
         have HIV := Lib.hid (HSR.out.cut hb hv)
         have HEV := Lib.hid (HENV.out.keep HIV.out.below)
         clear hb hv c0 g0 d0 d1 d2 f0 f1 f2 hxe hx1 hx3
         obtain ⟨c0, g0⟩ := HIV.out.rest.row
         obtain ⟨⟨d0, d1, d2⟩, f0, f1, f2⟩ := HIV.out.parts.row
         by_cases hne : d = []
         · have HN := Lib.hid (HN1.out (by rw [hne]; decide))
           subst hne
           clear hdd hdl
           go_wp2_with fail
           refine (parse_int_no _ HEV.out).mono ?_
           rintro e V2 ⟨⟨N, rfl⟩, hb⟩
           have HI2 := Lib.hid (HIV.out.keep hb)
           clear hb
           go_wp2_with fail
           go_ret2
           exact parse_post HN.out rfl rfl HI2.out.below
         · have CP := Lib.hid (fun w => parse_int_ok d hdd hne (by omega) w)
           have hz : (bs d).size = d.length := bs_size d
           have hv := valD_lt d hdd
           have hv2 := Nat.pow_le_pow_right (n := 10) (by decide) hdl.1
           have hv3 : (valD d : Int) ≤ 99 := by omega
           clear hv hv2 hdd hne
           by_cases h2 : d.length = 2
           · have j1 : (((bs d).size : Int) != 2) = false := by rw [bne_eq_false_iff_eq]; omega
             by_cases h59 : valD d ≤ 59
             · have HSS := Lib.hid (HN2.out ⟨h2, h59⟩)
               have hdt : t.drop d.length = t.drop 2 := by rw [h2]
               rw [hdt] at HIV c0
               have j2 : (valD d : Int) ≤ 59 := by omega
               have hrl : (t.drop 2).length ≤ 1000000 := by rw [List.length_drop]; omega
               obtain ⟨m, hm⟩ : ∃ m, valD d = m := ⟨_, rfl⟩
               rw [hm] at CP j2 hv3 HSS
               obtain ⟨r1, hr1⟩ : ∃ r1, t.drop 2 = r1 := ⟨_, rfl⟩
               rw [hr1] at HIV c0 hrl HSS
               obtain ⟨D, hD⟩ : ∃ D, bs d = D := ⟨_, rfl⟩
               rw [hD] at CP j1 ⊢
               clear h2 h59 hm hr1 hD hz hdl hdt
               go_wp2_with fail
               refine (CP.out _).mono ?_
               rintro e V2 ⟨rfl, hb⟩
               have HI2 := Lib.hid (HIV.out.keep hb)
               clear hb c0 g0 d0 d1 d2 f0 f1 f2
               obtain ⟨⟨d0, d1, d2⟩, f0, f1, f2⟩ := HI2.out.parts.row
               go_wp2_with fail
               exact ⟨⟨3, _, _, _, r1, rfl, HSS.out, hrl, HI2.out.set2 m⟩, by decide⟩
             · have HN := Lib.hid (HN1.out (fun h => h59 h.2))
               have j2 : (59 : Int) < (valD d : Int) := by omega
               obtain ⟨m, hm⟩ : ∃ m, valD d = m := ⟨_, rfl⟩
               rw [hm] at CP j2 hv3
               obtain ⟨D, hD⟩ : ∃ D, bs d = D := ⟨_, rfl⟩
               rw [hD] at CP j1 ⊢
               clear h2 h59 hm hD hz hdl
               go_wp2_with fail
               refine (CP.out _).mono ?_
               rintro e V2 ⟨rfl, hb⟩
               have HI2 := Lib.hid (HIV.out.keep hb)
               clear hb
               go_wp2_with fail
               go_ret2
               exact parse_post HN.out rfl rfl HI2.out.below
           · have j1 : (((bs d).size : Int) != 2) = true := by rw [bne_iff_ne]; omega
             have HN := Lib.hid (HN1.out (fun h => h2 h.1))
             obtain ⟨m, hm⟩ : ∃ m, valD d = m := ⟨_, rfl⟩
             rw [hm] at CP hv3
             obtain ⟨D, hD⟩ : ∃ D, bs d = D := ⟨_, rfl⟩
             rw [hD] at CP j1 ⊢
             clear h2 hm hD hz hdl
             go_wp2_with fail
             refine (CP.out _).mono ?_
             rintro e V2 ⟨rfl, hb⟩
             have HI2 := Lib.hid (HIV.out.keep hb)
             clear hb
             go_wp2_with fail
             go_ret2
             exact parse_post HN.out rfl rfl HI2.out.below
       · have HN := Lib.hid (HNO.out (stepB_other t hc))
         have hx58 : ∃ h : 0 < X.size, ((X[0].toNat : Int) != 58) = true := by
          subst hX
          refine ⟨hx0, ?_⟩
          rw [hxc, bne_iff_ne]
          intro h
          exact hc (UInt8.toNat_inj.1 (by have : (58 : UInt8).toNat = 58 := rfl; omega))
         rw [hX] at hxe
         obtain ⟨hx2, hx3⟩ := hx58
         clear hxt hX hx0 hxc hr hc
         go_wp2_with fail
         go_ret2
         exact parse_post HN.out rfl rfl HIR.out.below
   · have HF := Lib.hid (fin3 hA hq hB hq2 hC)
     clear hA hB hC hq hq2
     go_wp2_with fail
     go_meet
     exact ⟨x, y, z, r, HF.out, HIR.out⟩
 case rest =>
  obtain ⟨x, y, z, r, hF, hI⟩ := hcut
  have HIR := Lib.hid hI
  obtain ⟨c0, g0⟩ := hI.rest.row
  obtain ⟨⟨d0, d1, d2⟩, f0, f1, f2⟩ := hI.parts.row
  obtain ⟨k0, k1, k2⟩ := (HENV.out.keep hI.below).units
  have hcs := HFC.out x y z r hF
  have b3 : (x : Int) ≤ 999 := by have := hF.2.2.1; omega
  have b4 : (y : Int) ≤ 59 := by have := hF.2.2.2.1; omega
  have b5 : (z : Int) ≤ 59 := by have := hF.2.2.2.2; omega
  have i0 : ∀ w, (Instr.index 184 (.agg #[.int .i64 (x : Int), .int .i64 (y : Int), .int .i64 (z : Int)]) (.int .i64 0)).run Tryz.prog w = .ok (.int .i64 (x : Int)) w := fun _ => by kernel_rfl
  have i1 : ∀ w, (Instr.index 184 (.agg #[.int .i64 (x : Int), .int .i64 (y : Int), .int .i64 (z : Int)]) (.int .i64 1)).run Tryz.prog w = .ok (.int .i64 (y : Int)) w := fun _ => by kernel_rfl
  have i2 : ∀ w, (Instr.index 184 (.agg #[.int .i64 (x : Int), .int .i64 (y : Int), .int .i64 (z : Int)]) (.int .i64 2)).run Tryz.prog w = .ok (.int .i64 (z : Int)) w := fun _ => by kernel_rfl
  clear hI hF
  rcases hcs with ⟨e1, HP⟩ | ⟨e1, e2, t3, HP⟩ | ⟨e1, e2, t3, t4, HP⟩ | ⟨e1, e2, t3, t4, HP⟩
  all_goals
   go_wp2_with fail
   refine wp_loop_rounds 4 ?_
   rw [rounds_succ]
   go_wp2_with fail
   rw [rounds_succ]
   go_wp2_with fail
   rw [rounds_succ]
   go_wp2_with fail
   rw [rounds_succ]
   go_wp2_with fail
   go_ret2
   exact parse_post HP.out rfl rfl HIR.out.below
set_option maxHeartbeats 4000000 in
set_option maxRecDepth 100000 in
theorem parse_plus (l : List UInt8) (hlz : l.length ≤ 1000000) (hne : l ≠ []) (hm : ¬ l.headD 0 = 45) (w : World) (hE : EnvAt w) :
 Calls Tryz.prog 98 #[.string (bs l)] w (parsePost l w) := by
 have hxz : (bs l).size = l.length := by rw [bs_size]
 have hxe : (bs l).toList.isEmpty = false := by rw [ByteArray.toList_eq, bs_list]; simpa using hne
 have hx0 : ∃ h : 0 < (bs l).size, (((bs l)[0].toNat : Int) == 45) = false := by
  have h0 : 0 < (bs l).size := by rw [hxz]; exact List.length_pos_iff.2 hne
  refine ⟨h0, ?_⟩
  rw [head_at, beq_eq_false_iff_ne]
  intro h
  exact hm (UInt8.toNat_inj.1 (by have : (45 : UInt8).toNat = 45 := rfl; omega))
 have HPN := Lib.hid (fun h : formL l = none => parseO_no (l := l) (by rw [if_neg hm]; exact h))
 have HFC := Lib.hid (fun x y z r (h : Fin l x y z r) => fin_plus hm h)
 obtain ⟨h0, t0⟩ := hx0
 have i0 : (0 : Int) < ((bs l).size : Int) := by omega
 clear hxz hm hne
 have HENV := Lib.hid hE
 clear hE
 go_enter Tryz.func98, Tryz.ntmps98
 go_upto_block 0 with fail
 have HI : Hid (OpInv w 0 0 0 l ((w.alloc (.cells #[.string (bs l)] 9)).alloc (.cells #[.int .i64 0, .int .i64 0, .int .i64 0] 184))) := Lib.hid ⟨((Below.refl _ w).alloc (Nat.le_refl _) _).alloc (by simp) _, Px.heap_old (Px.heap_new w _) _, by have := Px.heap_new (w.alloc (.cells #[.string (bs l)] 9)) (.cells #[.int .i64 0, .int .i64 0, .int .i64 0] 184); rwa [show (w.alloc (.cells #[.string (bs l)] 9)).heap.size = w.heap.size + 1 by simp] at this⟩
 go_cut [28] (fun _ wx => ∃ x y z r, Fin l x y z r ∧ OpInv w x y z r wx)
 case first =>
  go_wp2_with fail
  go_loopw [28] (fun i wx => ∃ (k x y z : Nat) (r : List UInt8), i = .int .i64 (k : Int) ∧ SS l k x y z r ∧ r.length ≤ 1000000 ∧ OpInv w x y z r wx) (fun i _ => 3 - (intOf i).toNat)
  case atStart => exact ⟨0, 0, 0, 0, l, rfl, .inl ⟨rfl, rfl, rfl, rfl, rfl⟩, hlz, HI.out⟩
  case round =>
   obtain ⟨k, x, y, z, r, rfl, hss, hrz, hI⟩ := hrel
   have HIR := Lib.hid hI
   obtain ⟨c0, g0⟩ := hI.rest.row
   obtain ⟨⟨d0, d1, d2⟩, f0, f1, f2⟩ := hI.parts.row
   clear hI
   rcases hss with ⟨rfl, rfl, rfl, rfl, rfl⟩ | ⟨rfl, hA, rfl, rfl⟩ | ⟨rfl, q, hA, hq, hB, rfl⟩ | ⟨rfl, q, q2, hA, hq, hB, hq2, hC⟩
   · have CD := Lib.hid (digits_any 3 (by decide) (by decide) w.heap.size r hrz)
     obtain ⟨d, hd⟩ : ∃ d, takeD 3 r = d := ⟨_, rfl⟩
     rw [show (3 : Int).toNat = 3 from rfl, hd] at CD
     have hdd : d.all digQ = true := by rw [← hd]; exact Px.run_all _ _
     have hdl : d.length ≤ 3 ∧ d.length ≤ r.length := by rw [← hd]; exact takeD_le 3 r
     go_wp2_with fail
     refine (CD.out _ HIR.out.rest).mono ?_
     rintro e V ⟨rfl, hb, hv⟩
     have HIV := Lib.hid (HIR.out.cut hb hv)
     have HEV := Lib.hid (HENV.out.keep HIV.out.below)
     clear hb hv c0 g0 d0 d1 d2 f0 f1 f2
     obtain ⟨c0, g0⟩ := HIV.out.rest.row
     obtain ⟨⟨d0, d1, d2⟩, f0, f1, f2⟩ := HIV.out.parts.row
     by_cases hne : d = []
     · have HN := Lib.hid (formL_A0 (stepA_no hd (.inl hne)))
       subst hne
       clear hdd hdl hd
       go_wp2_with fail
       refine (parse_int_no _ HEV.out).mono ?_
       rintro e V2 ⟨⟨N, rfl⟩, hb⟩
       have HI2 := Lib.hid (HIV.out.keep hb)
       clear hb
       go_wp2_with fail
       go_ret2
       exact parse_post (HPN.out HN.out) rfl rfl HI2.out.below
     · have CP := Lib.hid (fun w => parse_int_ok d hdd hne hdl.1 w)
       have hv := valD_lt d hdd
       have hv2 := Nat.pow_le_pow_right (n := 10) (by decide) hdl.1
       have hv3 : valD d ≤ 999 := by omega
       have hz : (bs d).size = d.length := bs_size d
       have hd0 : 0 < d.length := List.length_pos_iff.2 hne
       by_cases hbad : 1 < d.length ∧ d.headD 0 = 48
       · have HN := Lib.hid (formL_A0 (stepA_no hd (.inr hbad)))
         have hb2 := head_bad hbad.1 hbad.2
         obtain ⟨D, hD⟩ : ∃ D, bs d = D := ⟨_, rfl⟩
         rw [hD] at CD CP hb2
         obtain ⟨j1, j0, j2⟩ := hb2
         rw [hD]
         clear hbad hd hdd hdl hne hd0 hz hv hv2 hD
         go_wp2_with fail
         refine (CP.out _).mono ?_
         rintro e V2 ⟨rfl, hb⟩
         have HI2 := Lib.hid (HIV.out.keep hb)
         clear hb
         go_wp2_with fail
         go_ret2
         exact parse_post (HPN.out HN.out) rfl rfl HI2.out.below
       · have HN := Lib.hid (stepA_yes hd hne hbad)
         have hgood := head_good hbad
         have hrl : (r.drop d.length).length ≤ 1000000 := by rw [List.length_drop]; omega
         obtain ⟨m, hm⟩ : ∃ m, valD d = m := ⟨_, rfl⟩
         rw [hm] at CP HN hv3
         obtain ⟨r1, hr1⟩ : ∃ r1, r.drop d.length = r1 := ⟨_, rfl⟩
         rw [hr1] at HN HIV c0 hrl
         obtain ⟨D, hD⟩ : ∃ D, bs d = D := ⟨_, rfl⟩
         rw [hD] at CD CP hz hgood
         rw [hD]
         clear hbad hd hdd hdl hne hd0 hz hv hv2 hD hm hr1
         rcases hgood with j1 | ⟨j1, j0, j2⟩
         all_goals
          go_wp2_with fail
          refine (CP.out _).mono ?_
          rintro e V2 ⟨rfl, hb⟩
          have HI2 := Lib.hid (HIV.out.keep hb)
          clear hb c0 g0 d0 d1 d2 f0 f1 f2
          obtain ⟨⟨d0, d1, d2⟩, f0, f1, f2⟩ := HI2.out.parts.row
          go_wp2_with fail
          exact ⟨⟨1, m, 0, 0, r1, rfl, .inr (.inl ⟨rfl, HN.out, rfl, rfl⟩), hrl, HI2.out.set0 m⟩, by decide⟩
   · skip
     by_cases hr : r = []
     · subst hr
       have HF := Lib.hid (fin1 hA)
       clear hA
       have e0 : (bs []).toList.isEmpty = true := by rw [ByteArray.toList_eq, bs_list]; rfl
       have e1 : (bs []).toList = [] := by rw [ByteArray.toList_eq, bs_list]
       go_wp2_with fail
       go_meet
       exact ⟨_, _, _, [], HF.out, HIR.out⟩
     · obtain ⟨c, t, rfl⟩ := List.exists_cons_of_ne_nil hr
       have HNO := Lib.hid (fun h : stepB (c :: t) = none => HPN.out (bad2 hA hr h))
       have HYES := Lib.hid (fun (m : Nat) (u : List UInt8) (h : stepB (c :: t) = some (m, u)) => show SS l 2 x m 0 u from .inr (.inr (.inl ⟨rfl, _, hA, hr, h, rfl⟩)))
       clear hA
       have hx0 : 0 < (bs (c :: t)).size := by rw [bs_size]; simp
       have hxc : (bs (c :: t))[0] = c := head_at hx0
       have hxe : (bs (c :: t)).toList.isEmpty = false := by rw [ByteArray.toList_eq, bs_list]; rfl
       have hxt : (bs (c :: t)).extract 1 (bs (c :: t)).size = bs t := by rw [Lib.extract_from]; rfl
       have hx1 : (1 : Int) ≤ ((bs (c :: t)).size : Int) := by omega
       have htz : t.length ≤ 1000000 := by rw [List.length_cons] at hrz; omega
       obtain ⟨X, hX⟩ : ∃ X, bs (c :: t) = X := ⟨_, rfl⟩
       rw [hX] at c0 hx1
       by_cases hc : c = 58
       · subst hc
         have hx58 : ∃ h : 0 < X.size, ((X[0].toNat : Int) != 58) = false := by
          subst hX
          exact ⟨hx0, by rw [hxc]; rfl⟩
         rw [hX] at hxe hxt
         obtain ⟨hx2, hx3⟩ := hx58
         have HXT := Lib.hid hxt
         have CD := Lib.hid (digits_any 2 (by decide) (by decide) w.heap.size t htz)
         have HSR := Lib.hid (HIR.out.setR t)
         obtain ⟨d, hd⟩ : ∃ d, takeD 2 t = d := ⟨_, rfl⟩
         rw [show (2 : Int).toNat = 2 from rfl, hd] at CD
         have hdd : d.all digQ = true := by rw [← hd]; exact Px.run_all _ _
         have hdl : d.length ≤ 2 ∧ d.length ≤ t.length := by rw [← hd]; exact takeD_le 2 t
         have HN1 := Lib.hid (fun h : ¬ (d.length = 2 ∧ valD d ≤ 59) => HNO.out (stepB_no t (by rw [hd]; exact h)))
         have HN2 := Lib.hid (fun h : d.length = 2 ∧ valD d ≤ 59 => HYES.out (valD d) (t.drop 2) (by rw [stepB_yes t (by rw [hd]; exact h), hd]))
         clear hxt hX hx0 hxc hr hd
         go_wp2_with fail
         rw [HXT.out]
         refine (CD.out _ HSR.out.rest).mono ?_
         rintro e V ⟨rfl, hb, hv⟩
         have HIV := Lib.hid (HSR.out.cut hb hv)
         have HEV := Lib.hid (HENV.out.keep HIV.out.below)
         clear hb hv c0 g0 d0 d1 d2 f0 f1 f2 hxe hx1 hx3
         obtain ⟨c0, g0⟩ := HIV.out.rest.row
         obtain ⟨⟨d0, d1, d2⟩, f0, f1, f2⟩ := HIV.out.parts.row
         by_cases hne : d = []
         · have HN := Lib.hid (HN1.out (by rw [hne]; decide))
           subst hne
           clear hdd hdl
           go_wp2_with fail
           refine (parse_int_no _ HEV.out).mono ?_
           rintro e V2 ⟨⟨N, rfl⟩, hb⟩
           have HI2 := Lib.hid (HIV.out.keep hb)
           clear hb
           go_wp2_with fail
           go_ret2
           exact parse_post HN.out rfl rfl HI2.out.below
         · have CP := Lib.hid (fun w => parse_int_ok d hdd hne (by omega) w)
           have hz : (bs d).size = d.length := bs_size d
           have hv := valD_lt d hdd
           have hv2 := Nat.pow_le_pow_right (n := 10) (by decide) hdl.1
           have hv3 : (valD d : Int) ≤ 99 := by omega
           clear hv hv2 hdd hne
           by_cases h2 : d.length = 2
           · have j1 : (((bs d).size : Int) != 2) = false := by rw [bne_eq_false_iff_eq]; omega
             by_cases h59 : valD d ≤ 59
             · have HSS := Lib.hid (HN2.out ⟨h2, h59⟩)
               have hdt : t.drop d.length = t.drop 2 := by rw [h2]
               rw [hdt] at HIV c0
               have j2 : (valD d : Int) ≤ 59 := by omega
               have hrl : (t.drop 2).length ≤ 1000000 := by rw [List.length_drop]; omega
               obtain ⟨m, hm⟩ : ∃ m, valD d = m := ⟨_, rfl⟩
               rw [hm] at CP j2 hv3 HSS
               obtain ⟨r1, hr1⟩ : ∃ r1, t.drop 2 = r1 := ⟨_, rfl⟩
               rw [hr1] at HIV c0 hrl HSS
               obtain ⟨D, hD⟩ : ∃ D, bs d = D := ⟨_, rfl⟩
               rw [hD] at CP j1 ⊢
               clear h2 h59 hm hr1 hD hz hdl hdt
               go_wp2_with fail
               refine (CP.out _).mono ?_
               rintro e V2 ⟨rfl, hb⟩
               have HI2 := Lib.hid (HIV.out.keep hb)
               clear hb c0 g0 d0 d1 d2 f0 f1 f2
               obtain ⟨⟨d0, d1, d2⟩, f0, f1, f2⟩ := HI2.out.parts.row
               go_wp2_with fail
               exact ⟨⟨2, _, _, _, r1, rfl, HSS.out, hrl, HI2.out.set1 m⟩, by decide⟩
             · have HN := Lib.hid (HN1.out (fun h => h59 h.2))
               have j2 : (59 : Int) < (valD d : Int) := by omega
               obtain ⟨m, hm⟩ : ∃ m, valD d = m := ⟨_, rfl⟩
               rw [hm] at CP j2 hv3
               obtain ⟨D, hD⟩ : ∃ D, bs d = D := ⟨_, rfl⟩
               rw [hD] at CP j1 ⊢
               clear h2 h59 hm hD hz hdl
               go_wp2_with fail
               refine (CP.out _).mono ?_
               rintro e V2 ⟨rfl, hb⟩
               have HI2 := Lib.hid (HIV.out.keep hb)
               clear hb
               go_wp2_with fail
               go_ret2
               exact parse_post HN.out rfl rfl HI2.out.below
           · have j1 : (((bs d).size : Int) != 2) = true := by rw [bne_iff_ne]; omega
             have HN := Lib.hid (HN1.out (fun h => h2 h.1))
             obtain ⟨m, hm⟩ : ∃ m, valD d = m := ⟨_, rfl⟩
             rw [hm] at CP hv3
             obtain ⟨D, hD⟩ : ∃ D, bs d = D := ⟨_, rfl⟩
             rw [hD] at CP j1 ⊢
             clear h2 hm hD hz hdl
             go_wp2_with fail
             refine (CP.out _).mono ?_
             rintro e V2 ⟨rfl, hb⟩
             have HI2 := Lib.hid (HIV.out.keep hb)
             clear hb
             go_wp2_with fail
             go_ret2
             exact parse_post HN.out rfl rfl HI2.out.below
       · have HN := Lib.hid (HNO.out (stepB_other t hc))
         have hx58 : ∃ h : 0 < X.size, ((X[0].toNat : Int) != 58) = true := by
          subst hX
          refine ⟨hx0, ?_⟩
          rw [hxc, bne_iff_ne]
          intro h
          exact hc (UInt8.toNat_inj.1 (by have : (58 : UInt8).toNat = 58 := rfl; omega))
         rw [hX] at hxe
         obtain ⟨hx2, hx3⟩ := hx58
         clear hxt hX hx0 hxc hr hc
         go_wp2_with fail
         go_ret2
         exact parse_post HN.out rfl rfl HIR.out.below
   · skip
     by_cases hr : r = []
     · subst hr
       have HF := Lib.hid (fin2 hA hq hB)
       clear hA hB hq
       have e0 : (bs []).toList.isEmpty = true := by rw [ByteArray.toList_eq, bs_list]; rfl
       have e1 : (bs []).toList = [] := by rw [ByteArray.toList_eq, bs_list]
       go_wp2_with fail
       go_meet
       exact ⟨_, _, _, [], HF.out, HIR.out⟩
     · obtain ⟨c, t, rfl⟩ := List.exists_cons_of_ne_nil hr
       have HNO := Lib.hid (fun h : stepB (c :: t) = none => HPN.out (bad3 hA hq hB hr h))
       have HYES := Lib.hid (fun (m : Nat) (u : List UInt8) (h : stepB (c :: t) = some (m, u)) => show SS l 3 x y m u from .inr (.inr (.inr ⟨rfl, _, _, hA, hq, hB, hr, h⟩)))
       clear hA hB hq
       have hx0 : 0 < (bs (c :: t)).size := by rw [bs_size]; simp
       have hxc : (bs (c :: t))[0] = c := head_at hx0
       have hxe : (bs (c :: t)).toList.isEmpty = false := by rw [ByteArray.toList_eq, bs_list]; rfl
       have hxt : (bs (c :: t)).extract 1 (bs (c :: t)).size = bs t := by rw [Lib.extract_from]; rfl
       have hx1 : (1 : Int) ≤ ((bs (c :: t)).size : Int) := by omega
       have htz : t.length ≤ 1000000 := by rw [List.length_cons] at hrz; omega
       obtain ⟨X, hX⟩ : ∃ X, bs (c :: t) = X := ⟨_, rfl⟩
       rw [hX] at c0 hx1
       by_cases hc : c = 58
       · subst hc
         have hx58 : ∃ h : 0 < X.size, ((X[0].toNat : Int) != 58) = false := by
          subst hX
          exact ⟨hx0, by rw [hxc]; rfl⟩
         rw [hX] at hxe hxt
         obtain ⟨hx2, hx3⟩ := hx58
         have HXT := Lib.hid hxt
         have CD := Lib.hid (digits_any 2 (by decide) (by decide) w.heap.size t htz)
         have HSR := Lib.hid (HIR.out.setR t)
         obtain ⟨d, hd⟩ : ∃ d, takeD 2 t = d := ⟨_, rfl⟩
         rw [show (2 : Int).toNat = 2 from rfl, hd] at CD
         have hdd : d.all digQ = true := by rw [← hd]; exact Px.run_all _ _
         have hdl : d.length ≤ 2 ∧ d.length ≤ t.length := by rw [← hd]; exact takeD_le 2 t
         have HN1 := Lib.hid (fun h : ¬ (d.length = 2 ∧ valD d ≤ 59) => HNO.out (stepB_no t (by rw [hd]; exact h)))
         have HN2 := Lib.hid (fun h : d.length = 2 ∧ valD d ≤ 59 => HYES.out (valD d) (t.drop 2) (by rw [stepB_yes t (by rw [hd]; exact h), hd]))
         clear hxt hX hx0 hxc hr hd
         go_wp2_with fail
         rw [HXT.out]
         refine (CD.out _ HSR.out.rest).mono ?_
         rintro e V ⟨rfl, hb, hv⟩
         have HIV := Lib.hid (HSR.out.cut hb hv)
         have HEV := Lib.hid (HENV.out.keep HIV.out.below)
         clear hb hv c0 g0 d0 d1 d2 f0 f1 f2 hxe hx1 hx3
         obtain ⟨c0, g0⟩ := HIV.out.rest.row
         obtain ⟨⟨d0, d1, d2⟩, f0, f1, f2⟩ := HIV.out.parts.row
         by_cases hne : d = []
         · have HN := Lib.hid (HN1.out (by rw [hne]; decide))
           subst hne
           clear hdd hdl
           go_wp2_with fail
           refine (parse_int_no _ HEV.out).mono ?_
           rintro e V2 ⟨⟨N, rfl⟩, hb⟩
           have HI2 := Lib.hid (HIV.out.keep hb)
           clear hb
           go_wp2_with fail
           go_ret2
           exact parse_post HN.out rfl rfl HI2.out.below
         · have CP := Lib.hid (fun w => parse_int_ok d hdd hne (by omega) w)
           have hz : (bs d).size = d.length := bs_size d
           have hv := valD_lt d hdd
           have hv2 := Nat.pow_le_pow_right (n := 10) (by decide) hdl.1
           have hv3 : (valD d : Int) ≤ 99 := by omega
           clear hv hv2 hdd hne
           by_cases h2 : d.length = 2
           · have j1 : (((bs d).size : Int) != 2) = false := by rw [bne_eq_false_iff_eq]; omega
             by_cases h59 : valD d ≤ 59
             · have HSS := Lib.hid (HN2.out ⟨h2, h59⟩)
               have hdt : t.drop d.length = t.drop 2 := by rw [h2]
               rw [hdt] at HIV c0
               have j2 : (valD d : Int) ≤ 59 := by omega
               have hrl : (t.drop 2).length ≤ 1000000 := by rw [List.length_drop]; omega
               obtain ⟨m, hm⟩ : ∃ m, valD d = m := ⟨_, rfl⟩
               rw [hm] at CP j2 hv3 HSS
               obtain ⟨r1, hr1⟩ : ∃ r1, t.drop 2 = r1 := ⟨_, rfl⟩
               rw [hr1] at HIV c0 hrl HSS
               obtain ⟨D, hD⟩ : ∃ D, bs d = D := ⟨_, rfl⟩
               rw [hD] at CP j1 ⊢
               clear h2 h59 hm hr1 hD hz hdl hdt
               go_wp2_with fail
               refine (CP.out _).mono ?_
               rintro e V2 ⟨rfl, hb⟩
               have HI2 := Lib.hid (HIV.out.keep hb)
               clear hb c0 g0 d0 d1 d2 f0 f1 f2
               obtain ⟨⟨d0, d1, d2⟩, f0, f1, f2⟩ := HI2.out.parts.row
               go_wp2_with fail
               exact ⟨⟨3, _, _, _, r1, rfl, HSS.out, hrl, HI2.out.set2 m⟩, by decide⟩
             · have HN := Lib.hid (HN1.out (fun h => h59 h.2))
               have j2 : (59 : Int) < (valD d : Int) := by omega
               obtain ⟨m, hm⟩ : ∃ m, valD d = m := ⟨_, rfl⟩
               rw [hm] at CP j2 hv3
               obtain ⟨D, hD⟩ : ∃ D, bs d = D := ⟨_, rfl⟩
               rw [hD] at CP j1 ⊢
               clear h2 h59 hm hD hz hdl
               go_wp2_with fail
               refine (CP.out _).mono ?_
               rintro e V2 ⟨rfl, hb⟩
               have HI2 := Lib.hid (HIV.out.keep hb)
               clear hb
               go_wp2_with fail
               go_ret2
               exact parse_post HN.out rfl rfl HI2.out.below
           · have j1 : (((bs d).size : Int) != 2) = true := by rw [bne_iff_ne]; omega
             have HN := Lib.hid (HN1.out (fun h => h2 h.1))
             obtain ⟨m, hm⟩ : ∃ m, valD d = m := ⟨_, rfl⟩
             rw [hm] at CP hv3
             obtain ⟨D, hD⟩ : ∃ D, bs d = D := ⟨_, rfl⟩
             rw [hD] at CP j1 ⊢
             clear h2 hm hD hz hdl
             go_wp2_with fail
             refine (CP.out _).mono ?_
             rintro e V2 ⟨rfl, hb⟩
             have HI2 := Lib.hid (HIV.out.keep hb)
             clear hb
             go_wp2_with fail
             go_ret2
             exact parse_post HN.out rfl rfl HI2.out.below
       · have HN := Lib.hid (HNO.out (stepB_other t hc))
         have hx58 : ∃ h : 0 < X.size, ((X[0].toNat : Int) != 58) = true := by
          subst hX
          refine ⟨hx0, ?_⟩
          rw [hxc, bne_iff_ne]
          intro h
          exact hc (UInt8.toNat_inj.1 (by have : (58 : UInt8).toNat = 58 := rfl; omega))
         rw [hX] at hxe
         obtain ⟨hx2, hx3⟩ := hx58
         clear hxt hX hx0 hxc hr hc
         go_wp2_with fail
         go_ret2
         exact parse_post HN.out rfl rfl HIR.out.below
   · have HF := Lib.hid (fin3 hA hq hB hq2 hC)
     clear hA hB hC hq hq2
     go_wp2_with fail
     go_meet
     exact ⟨x, y, z, r, HF.out, HIR.out⟩
 case rest =>
  obtain ⟨x, y, z, r, hF, hI⟩ := hcut
  have HIR := Lib.hid hI
  obtain ⟨c0, g0⟩ := hI.rest.row
  obtain ⟨⟨d0, d1, d2⟩, f0, f1, f2⟩ := hI.parts.row
  obtain ⟨k0, k1, k2⟩ := (HENV.out.keep hI.below).units
  have hcs := HFC.out x y z r hF
  have b3 : (x : Int) ≤ 999 := by have := hF.2.2.1; omega
  have b4 : (y : Int) ≤ 59 := by have := hF.2.2.2.1; omega
  have b5 : (z : Int) ≤ 59 := by have := hF.2.2.2.2; omega
  have i0 : ∀ w, (Instr.index 184 (.agg #[.int .i64 (x : Int), .int .i64 (y : Int), .int .i64 (z : Int)]) (.int .i64 0)).run Tryz.prog w = .ok (.int .i64 (x : Int)) w := fun _ => by kernel_rfl
  have i1 : ∀ w, (Instr.index 184 (.agg #[.int .i64 (x : Int), .int .i64 (y : Int), .int .i64 (z : Int)]) (.int .i64 1)).run Tryz.prog w = .ok (.int .i64 (y : Int)) w := fun _ => by kernel_rfl
  have i2 : ∀ w, (Instr.index 184 (.agg #[.int .i64 (x : Int), .int .i64 (y : Int), .int .i64 (z : Int)]) (.int .i64 2)).run Tryz.prog w = .ok (.int .i64 (z : Int)) w := fun _ => by kernel_rfl
  clear hI hF
  rcases hcs with ⟨e1, HP⟩ | ⟨e1, e2, t4, HP⟩ | ⟨e1, e2, t4, HP⟩
  all_goals
   go_wp2_with fail
   refine wp_loop_rounds 4 ?_
   rw [rounds_succ]
   go_wp2_with fail
   rw [rounds_succ]
   go_wp2_with fail
   rw [rounds_succ]
   go_wp2_with fail
   rw [rounds_succ]
   go_wp2_with fail
   go_ret2
   exact parse_post HP.out rfl rfl HIR.out.below
set_option maxHeartbeats 4000000 in
set_option maxRecDepth 100000 in
theorem parse_empty  (w : World) (hE : EnvAt w) :
 Calls Tryz.prog 98 #[.string (bs [])] w (parsePost [] w) := by
 obtain ⟨l, hl⟩ : ∃ l : List UInt8, [] = l := ⟨_, rfl⟩
 rw [hl]
 have hm : ¬ l.headD 0 = 45 := by rw [← hl]; decide
 have hlz : l.length ≤ 1000000 := by rw [← hl]; decide
 have hxe : (bs l).toList.isEmpty = true := by rw [← hl, ByteArray.toList_eq, bs_list]; rfl
 have hxe2 : (bs l).toList = [] := by rw [← hl, ByteArray.toList_eq, bs_list]
 have HPN := Lib.hid (fun h : formL l = none => parseO_no (l := l) (by rw [if_neg hm]; exact h))
 have HFC := Lib.hid (fun x y z r (h : Fin l x y z r) => fin_plus hm h)
 clear hm hl
 have HENV := Lib.hid hE
 clear hE
 go_enter Tryz.func98, Tryz.ntmps98
 go_upto_block 0 with fail
 have HI : Hid (OpInv w 0 0 0 l ((w.alloc (.cells #[.string (bs l)] 9)).alloc (.cells #[.int .i64 0, .int .i64 0, .int .i64 0] 184))) := Lib.hid ⟨((Below.refl _ w).alloc (Nat.le_refl _) _).alloc (by simp) _, Px.heap_old (Px.heap_new w _) _, by have := Px.heap_new (w.alloc (.cells #[.string (bs l)] 9)) (.cells #[.int .i64 0, .int .i64 0, .int .i64 0] 184); rwa [show (w.alloc (.cells #[.string (bs l)] 9)).heap.size = w.heap.size + 1 by simp] at this⟩
 go_cut [28] (fun _ wx => ∃ x y z r, Fin l x y z r ∧ OpInv w x y z r wx)
 case first =>
  go_wp2_with fail
  go_loopw [28] (fun i wx => ∃ (k x y z : Nat) (r : List UInt8), i = .int .i64 (k : Int) ∧ SS l k x y z r ∧ r.length ≤ 1000000 ∧ OpInv w x y z r wx) (fun i _ => 3 - (intOf i).toNat)
  case atStart => exact ⟨0, 0, 0, 0, l, rfl, .inl ⟨rfl, rfl, rfl, rfl, rfl⟩, hlz, HI.out⟩
  case round =>
   obtain ⟨k, x, y, z, r, rfl, hss, hrz, hI⟩ := hrel
   have HIR := Lib.hid hI
   obtain ⟨c0, g0⟩ := hI.rest.row
   obtain ⟨⟨d0, d1, d2⟩, f0, f1, f2⟩ := hI.parts.row
   clear hI
   rcases hss with ⟨rfl, rfl, rfl, rfl, rfl⟩ | ⟨rfl, hA, rfl, rfl⟩ | ⟨rfl, q, hA, hq, hB, rfl⟩ | ⟨rfl, q, q2, hA, hq, hB, hq2, hC⟩
   · have CD := Lib.hid (digits_any 3 (by decide) (by decide) w.heap.size r hrz)
     obtain ⟨d, hd⟩ : ∃ d, takeD 3 r = d := ⟨_, rfl⟩
     rw [show (3 : Int).toNat = 3 from rfl, hd] at CD
     have hdd : d.all digQ = true := by rw [← hd]; exact Px.run_all _ _
     have hdl : d.length ≤ 3 ∧ d.length ≤ r.length := by rw [← hd]; exact takeD_le 3 r
     go_wp2_with fail
     refine (CD.out _ HIR.out.rest).mono ?_
     rintro e V ⟨rfl, hb, hv⟩
     have HIV := Lib.hid (HIR.out.cut hb hv)
     have HEV := Lib.hid (HENV.out.keep HIV.out.below)
     clear hb hv c0 g0 d0 d1 d2 f0 f1 f2
     obtain ⟨c0, g0⟩ := HIV.out.rest.row
     obtain ⟨⟨d0, d1, d2⟩, f0, f1, f2⟩ := HIV.out.parts.row
     by_cases hne : d = []
     · have HN := Lib.hid (formL_A0 (stepA_no hd (.inl hne)))
       subst hne
       clear hdd hdl hd
       go_wp2_with fail
       refine (parse_int_no _ HEV.out).mono ?_
       rintro e V2 ⟨⟨N, rfl⟩, hb⟩
       have HI2 := Lib.hid (HIV.out.keep hb)
       clear hb
       go_wp2_with fail
       go_ret2
       exact parse_post (HPN.out HN.out) rfl rfl HI2.out.below
     · have CP := Lib.hid (fun w => parse_int_ok d hdd hne hdl.1 w)
       have hv := valD_lt d hdd
       have hv2 := Nat.pow_le_pow_right (n := 10) (by decide) hdl.1
       have hv3 : valD d ≤ 999 := by omega
       have hz : (bs d).size = d.length := bs_size d
       have hd0 : 0 < d.length := List.length_pos_iff.2 hne
       by_cases hbad : 1 < d.length ∧ d.headD 0 = 48
       · have HN := Lib.hid (formL_A0 (stepA_no hd (.inr hbad)))
         have hb2 := head_bad hbad.1 hbad.2
         obtain ⟨D, hD⟩ : ∃ D, bs d = D := ⟨_, rfl⟩
         rw [hD] at CD CP hb2
         obtain ⟨j1, j0, j2⟩ := hb2
         rw [hD]
         clear hbad hd hdd hdl hne hd0 hz hv hv2 hD
         go_wp2_with fail
         refine (CP.out _).mono ?_
         rintro e V2 ⟨rfl, hb⟩
         have HI2 := Lib.hid (HIV.out.keep hb)
         clear hb
         go_wp2_with fail
         go_ret2
         exact parse_post (HPN.out HN.out) rfl rfl HI2.out.below
       · have HN := Lib.hid (stepA_yes hd hne hbad)
         have hgood := head_good hbad
         have hrl : (r.drop d.length).length ≤ 1000000 := by rw [List.length_drop]; omega
         obtain ⟨m, hm⟩ : ∃ m, valD d = m := ⟨_, rfl⟩
         rw [hm] at CP HN hv3
         obtain ⟨r1, hr1⟩ : ∃ r1, r.drop d.length = r1 := ⟨_, rfl⟩
         rw [hr1] at HN HIV c0 hrl
         obtain ⟨D, hD⟩ : ∃ D, bs d = D := ⟨_, rfl⟩
         rw [hD] at CD CP hz hgood
         rw [hD]
         clear hbad hd hdd hdl hne hd0 hz hv hv2 hD hm hr1
         rcases hgood with j1 | ⟨j1, j0, j2⟩
         all_goals
          go_wp2_with fail
          refine (CP.out _).mono ?_
          rintro e V2 ⟨rfl, hb⟩
          have HI2 := Lib.hid (HIV.out.keep hb)
          clear hb c0 g0 d0 d1 d2 f0 f1 f2
          obtain ⟨⟨d0, d1, d2⟩, f0, f1, f2⟩ := HI2.out.parts.row
          go_wp2_with fail
          exact ⟨⟨1, m, 0, 0, r1, rfl, .inr (.inl ⟨rfl, HN.out, rfl, rfl⟩), hrl, HI2.out.set0 m⟩, by decide⟩
   · skip
     by_cases hr : r = []
     · subst hr
       have HF := Lib.hid (fin1 hA)
       clear hA
       have e0 : (bs []).toList.isEmpty = true := by rw [ByteArray.toList_eq, bs_list]; rfl
       have e1 : (bs []).toList = [] := by rw [ByteArray.toList_eq, bs_list]
       go_wp2_with fail
       go_meet
       exact ⟨_, _, _, [], HF.out, HIR.out⟩
     · obtain ⟨c, t, rfl⟩ := List.exists_cons_of_ne_nil hr
       have HNO := Lib.hid (fun h : stepB (c :: t) = none => HPN.out (bad2 hA hr h))
       have HYES := Lib.hid (fun (m : Nat) (u : List UInt8) (h : stepB (c :: t) = some (m, u)) => show SS l 2 x m 0 u from .inr (.inr (.inl ⟨rfl, _, hA, hr, h, rfl⟩)))
       clear hA
       have hx0 : 0 < (bs (c :: t)).size := by rw [bs_size]; simp
       have hxc : (bs (c :: t))[0] = c := head_at hx0
       have hxe : (bs (c :: t)).toList.isEmpty = false := by rw [ByteArray.toList_eq, bs_list]; rfl
       have hxt : (bs (c :: t)).extract 1 (bs (c :: t)).size = bs t := by rw [Lib.extract_from]; rfl
       have hx1 : (1 : Int) ≤ ((bs (c :: t)).size : Int) := by omega
       have htz : t.length ≤ 1000000 := by rw [List.length_cons] at hrz; omega
       obtain ⟨X, hX⟩ : ∃ X, bs (c :: t) = X := ⟨_, rfl⟩
       rw [hX] at c0 hx1
       by_cases hc : c = 58
       · subst hc
         have hx58 : ∃ h : 0 < X.size, ((X[0].toNat : Int) != 58) = false := by
          subst hX
          exact ⟨hx0, by rw [hxc]; rfl⟩
         rw [hX] at hxe hxt
         obtain ⟨hx2, hx3⟩ := hx58
         have HXT := Lib.hid hxt
         have CD := Lib.hid (digits_any 2 (by decide) (by decide) w.heap.size t htz)
         have HSR := Lib.hid (HIR.out.setR t)
         obtain ⟨d, hd⟩ : ∃ d, takeD 2 t = d := ⟨_, rfl⟩
         rw [show (2 : Int).toNat = 2 from rfl, hd] at CD
         have hdd : d.all digQ = true := by rw [← hd]; exact Px.run_all _ _
         have hdl : d.length ≤ 2 ∧ d.length ≤ t.length := by rw [← hd]; exact takeD_le 2 t
         have HN1 := Lib.hid (fun h : ¬ (d.length = 2 ∧ valD d ≤ 59) => HNO.out (stepB_no t (by rw [hd]; exact h)))
         have HN2 := Lib.hid (fun h : d.length = 2 ∧ valD d ≤ 59 => HYES.out (valD d) (t.drop 2) (by rw [stepB_yes t (by rw [hd]; exact h), hd]))
         clear hxt hX hx0 hxc hr hd
         go_wp2_with fail
         rw [HXT.out]
         refine (CD.out _ HSR.out.rest).mono ?_
         rintro e V ⟨rfl, hb, hv⟩
         have HIV := Lib.hid (HSR.out.cut hb hv)
         have HEV := Lib.hid (HENV.out.keep HIV.out.below)
         clear hb hv c0 g0 d0 d1 d2 f0 f1 f2 hxe hx1 hx3
         obtain ⟨c0, g0⟩ := HIV.out.rest.row
         obtain ⟨⟨d0, d1, d2⟩, f0, f1, f2⟩ := HIV.out.parts.row
         by_cases hne : d = []
         · have HN := Lib.hid (HN1.out (by rw [hne]; decide))
           subst hne
           clear hdd hdl
           go_wp2_with fail
           refine (parse_int_no _ HEV.out).mono ?_
           rintro e V2 ⟨⟨N, rfl⟩, hb⟩
           have HI2 := Lib.hid (HIV.out.keep hb)
           clear hb
           go_wp2_with fail
           go_ret2
           exact parse_post HN.out rfl rfl HI2.out.below
         · have CP := Lib.hid (fun w => parse_int_ok d hdd hne (by omega) w)
           have hz : (bs d).size = d.length := bs_size d
           have hv := valD_lt d hdd
           have hv2 := Nat.pow_le_pow_right (n := 10) (by decide) hdl.1
           have hv3 : (valD d : Int) ≤ 99 := by omega
           clear hv hv2 hdd hne
           by_cases h2 : d.length = 2
           · have j1 : (((bs d).size : Int) != 2) = false := by rw [bne_eq_false_iff_eq]; omega
             by_cases h59 : valD d ≤ 59
             · have HSS := Lib.hid (HN2.out ⟨h2, h59⟩)
               have hdt : t.drop d.length = t.drop 2 := by rw [h2]
               rw [hdt] at HIV c0
               have j2 : (valD d : Int) ≤ 59 := by omega
               have hrl : (t.drop 2).length ≤ 1000000 := by rw [List.length_drop]; omega
               obtain ⟨m, hm⟩ : ∃ m, valD d = m := ⟨_, rfl⟩
               rw [hm] at CP j2 hv3 HSS
               obtain ⟨r1, hr1⟩ : ∃ r1, t.drop 2 = r1 := ⟨_, rfl⟩
               rw [hr1] at HIV c0 hrl HSS
               obtain ⟨D, hD⟩ : ∃ D, bs d = D := ⟨_, rfl⟩
               rw [hD] at CP j1 ⊢
               clear h2 h59 hm hr1 hD hz hdl hdt
               go_wp2_with fail
               refine (CP.out _).mono ?_
               rintro e V2 ⟨rfl, hb⟩
               have HI2 := Lib.hid (HIV.out.keep hb)
               clear hb c0 g0 d0 d1 d2 f0 f1 f2
               obtain ⟨⟨d0, d1, d2⟩, f0, f1, f2⟩ := HI2.out.parts.row
               go_wp2_with fail
               exact ⟨⟨2, _, _, _, r1, rfl, HSS.out, hrl, HI2.out.set1 m⟩, by decide⟩
             · have HN := Lib.hid (HN1.out (fun h => h59 h.2))
               have j2 : (59 : Int) < (valD d : Int) := by omega
               obtain ⟨m, hm⟩ : ∃ m, valD d = m := ⟨_, rfl⟩
               rw [hm] at CP j2 hv3
               obtain ⟨D, hD⟩ : ∃ D, bs d = D := ⟨_, rfl⟩
               rw [hD] at CP j1 ⊢
               clear h2 h59 hm hD hz hdl
               go_wp2_with fail
               refine (CP.out _).mono ?_
               rintro e V2 ⟨rfl, hb⟩
               have HI2 := Lib.hid (HIV.out.keep hb)
               clear hb
               go_wp2_with fail
               go_ret2
               exact parse_post HN.out rfl rfl HI2.out.below
           · have j1 : (((bs d).size : Int) != 2) = true := by rw [bne_iff_ne]; omega
             have HN := Lib.hid (HN1.out (fun h => h2 h.1))
             obtain ⟨m, hm⟩ : ∃ m, valD d = m := ⟨_, rfl⟩
             rw [hm] at CP hv3
             obtain ⟨D, hD⟩ : ∃ D, bs d = D := ⟨_, rfl⟩
             rw [hD] at CP j1 ⊢
             clear h2 hm hD hz hdl
             go_wp2_with fail
             refine (CP.out _).mono ?_
             rintro e V2 ⟨rfl, hb⟩
             have HI2 := Lib.hid (HIV.out.keep hb)
             clear hb
             go_wp2_with fail
             go_ret2
             exact parse_post HN.out rfl rfl HI2.out.below
       · have HN := Lib.hid (HNO.out (stepB_other t hc))
         have hx58 : ∃ h : 0 < X.size, ((X[0].toNat : Int) != 58) = true := by
          subst hX
          refine ⟨hx0, ?_⟩
          rw [hxc, bne_iff_ne]
          intro h
          exact hc (UInt8.toNat_inj.1 (by have : (58 : UInt8).toNat = 58 := rfl; omega))
         rw [hX] at hxe
         obtain ⟨hx2, hx3⟩ := hx58
         clear hxt hX hx0 hxc hr hc
         go_wp2_with fail
         go_ret2
         exact parse_post HN.out rfl rfl HIR.out.below
   · skip
     by_cases hr : r = []
     · subst hr
       have HF := Lib.hid (fin2 hA hq hB)
       clear hA hB hq
       have e0 : (bs []).toList.isEmpty = true := by rw [ByteArray.toList_eq, bs_list]; rfl
       have e1 : (bs []).toList = [] := by rw [ByteArray.toList_eq, bs_list]
       go_wp2_with fail
       go_meet
       exact ⟨_, _, _, [], HF.out, HIR.out⟩
     · obtain ⟨c, t, rfl⟩ := List.exists_cons_of_ne_nil hr
       have HNO := Lib.hid (fun h : stepB (c :: t) = none => HPN.out (bad3 hA hq hB hr h))
       have HYES := Lib.hid (fun (m : Nat) (u : List UInt8) (h : stepB (c :: t) = some (m, u)) => show SS l 3 x y m u from .inr (.inr (.inr ⟨rfl, _, _, hA, hq, hB, hr, h⟩)))
       clear hA hB hq
       have hx0 : 0 < (bs (c :: t)).size := by rw [bs_size]; simp
       have hxc : (bs (c :: t))[0] = c := head_at hx0
       have hxe : (bs (c :: t)).toList.isEmpty = false := by rw [ByteArray.toList_eq, bs_list]; rfl
       have hxt : (bs (c :: t)).extract 1 (bs (c :: t)).size = bs t := by rw [Lib.extract_from]; rfl
       have hx1 : (1 : Int) ≤ ((bs (c :: t)).size : Int) := by omega
       have htz : t.length ≤ 1000000 := by rw [List.length_cons] at hrz; omega
       obtain ⟨X, hX⟩ : ∃ X, bs (c :: t) = X := ⟨_, rfl⟩
       rw [hX] at c0 hx1
       by_cases hc : c = 58
       · subst hc
         have hx58 : ∃ h : 0 < X.size, ((X[0].toNat : Int) != 58) = false := by
          subst hX
          exact ⟨hx0, by rw [hxc]; rfl⟩
         rw [hX] at hxe hxt
         obtain ⟨hx2, hx3⟩ := hx58
         have HXT := Lib.hid hxt
         have CD := Lib.hid (digits_any 2 (by decide) (by decide) w.heap.size t htz)
         have HSR := Lib.hid (HIR.out.setR t)
         obtain ⟨d, hd⟩ : ∃ d, takeD 2 t = d := ⟨_, rfl⟩
         rw [show (2 : Int).toNat = 2 from rfl, hd] at CD
         have hdd : d.all digQ = true := by rw [← hd]; exact Px.run_all _ _
         have hdl : d.length ≤ 2 ∧ d.length ≤ t.length := by rw [← hd]; exact takeD_le 2 t
         have HN1 := Lib.hid (fun h : ¬ (d.length = 2 ∧ valD d ≤ 59) => HNO.out (stepB_no t (by rw [hd]; exact h)))
         have HN2 := Lib.hid (fun h : d.length = 2 ∧ valD d ≤ 59 => HYES.out (valD d) (t.drop 2) (by rw [stepB_yes t (by rw [hd]; exact h), hd]))
         clear hxt hX hx0 hxc hr hd
         go_wp2_with fail
         rw [HXT.out]
         refine (CD.out _ HSR.out.rest).mono ?_
         rintro e V ⟨rfl, hb, hv⟩
         have HIV := Lib.hid (HSR.out.cut hb hv)
         have HEV := Lib.hid (HENV.out.keep HIV.out.below)
         clear hb hv c0 g0 d0 d1 d2 f0 f1 f2 hxe hx1 hx3
         obtain ⟨c0, g0⟩ := HIV.out.rest.row
         obtain ⟨⟨d0, d1, d2⟩, f0, f1, f2⟩ := HIV.out.parts.row
         by_cases hne : d = []
         · have HN := Lib.hid (HN1.out (by rw [hne]; decide))
           subst hne
           clear hdd hdl
           go_wp2_with fail
           refine (parse_int_no _ HEV.out).mono ?_
           rintro e V2 ⟨⟨N, rfl⟩, hb⟩
           have HI2 := Lib.hid (HIV.out.keep hb)
           clear hb
           go_wp2_with fail
           go_ret2
           exact parse_post HN.out rfl rfl HI2.out.below
         · have CP := Lib.hid (fun w => parse_int_ok d hdd hne (by omega) w)
           have hz : (bs d).size = d.length := bs_size d
           have hv := valD_lt d hdd
           have hv2 := Nat.pow_le_pow_right (n := 10) (by decide) hdl.1
           have hv3 : (valD d : Int) ≤ 99 := by omega
           clear hv hv2 hdd hne
           by_cases h2 : d.length = 2
           · have j1 : (((bs d).size : Int) != 2) = false := by rw [bne_eq_false_iff_eq]; omega
             by_cases h59 : valD d ≤ 59
             · have HSS := Lib.hid (HN2.out ⟨h2, h59⟩)
               have hdt : t.drop d.length = t.drop 2 := by rw [h2]
               rw [hdt] at HIV c0
               have j2 : (valD d : Int) ≤ 59 := by omega
               have hrl : (t.drop 2).length ≤ 1000000 := by rw [List.length_drop]; omega
               obtain ⟨m, hm⟩ : ∃ m, valD d = m := ⟨_, rfl⟩
               rw [hm] at CP j2 hv3 HSS
               obtain ⟨r1, hr1⟩ : ∃ r1, t.drop 2 = r1 := ⟨_, rfl⟩
               rw [hr1] at HIV c0 hrl HSS
               obtain ⟨D, hD⟩ : ∃ D, bs d = D := ⟨_, rfl⟩
               rw [hD] at CP j1 ⊢
               clear h2 h59 hm hr1 hD hz hdl hdt
               go_wp2_with fail
               refine (CP.out _).mono ?_
               rintro e V2 ⟨rfl, hb⟩
               have HI2 := Lib.hid (HIV.out.keep hb)
               clear hb c0 g0 d0 d1 d2 f0 f1 f2
               obtain ⟨⟨d0, d1, d2⟩, f0, f1, f2⟩ := HI2.out.parts.row
               go_wp2_with fail
               exact ⟨⟨3, _, _, _, r1, rfl, HSS.out, hrl, HI2.out.set2 m⟩, by decide⟩
             · have HN := Lib.hid (HN1.out (fun h => h59 h.2))
               have j2 : (59 : Int) < (valD d : Int) := by omega
               obtain ⟨m, hm⟩ : ∃ m, valD d = m := ⟨_, rfl⟩
               rw [hm] at CP j2 hv3
               obtain ⟨D, hD⟩ : ∃ D, bs d = D := ⟨_, rfl⟩
               rw [hD] at CP j1 ⊢
               clear h2 h59 hm hD hz hdl
               go_wp2_with fail
               refine (CP.out _).mono ?_
               rintro e V2 ⟨rfl, hb⟩
               have HI2 := Lib.hid (HIV.out.keep hb)
               clear hb
               go_wp2_with fail
               go_ret2
               exact parse_post HN.out rfl rfl HI2.out.below
           · have j1 : (((bs d).size : Int) != 2) = true := by rw [bne_iff_ne]; omega
             have HN := Lib.hid (HN1.out (fun h => h2 h.1))
             obtain ⟨m, hm⟩ : ∃ m, valD d = m := ⟨_, rfl⟩
             rw [hm] at CP hv3
             obtain ⟨D, hD⟩ : ∃ D, bs d = D := ⟨_, rfl⟩
             rw [hD] at CP j1 ⊢
             clear h2 hm hD hz hdl
             go_wp2_with fail
             refine (CP.out _).mono ?_
             rintro e V2 ⟨rfl, hb⟩
             have HI2 := Lib.hid (HIV.out.keep hb)
             clear hb
             go_wp2_with fail
             go_ret2
             exact parse_post HN.out rfl rfl HI2.out.below
       · have HN := Lib.hid (HNO.out (stepB_other t hc))
         have hx58 : ∃ h : 0 < X.size, ((X[0].toNat : Int) != 58) = true := by
          subst hX
          refine ⟨hx0, ?_⟩
          rw [hxc, bne_iff_ne]
          intro h
          exact hc (UInt8.toNat_inj.1 (by have : (58 : UInt8).toNat = 58 := rfl; omega))
         rw [hX] at hxe
         obtain ⟨hx2, hx3⟩ := hx58
         clear hxt hX hx0 hxc hr hc
         go_wp2_with fail
         go_ret2
         exact parse_post HN.out rfl rfl HIR.out.below
   · have HF := Lib.hid (fin3 hA hq hB hq2 hC)
     clear hA hB hC hq hq2
     go_wp2_with fail
     go_meet
     exact ⟨x, y, z, r, HF.out, HIR.out⟩
 case rest =>
  obtain ⟨x, y, z, r, hF, hI⟩ := hcut
  have HIR := Lib.hid hI
  obtain ⟨c0, g0⟩ := hI.rest.row
  obtain ⟨⟨d0, d1, d2⟩, f0, f1, f2⟩ := hI.parts.row
  obtain ⟨k0, k1, k2⟩ := (HENV.out.keep hI.below).units
  have hcs := HFC.out x y z r hF
  have b3 : (x : Int) ≤ 999 := by have := hF.2.2.1; omega
  have b4 : (y : Int) ≤ 59 := by have := hF.2.2.2.1; omega
  have b5 : (z : Int) ≤ 59 := by have := hF.2.2.2.2; omega
  have i0 : ∀ w, (Instr.index 184 (.agg #[.int .i64 (x : Int), .int .i64 (y : Int), .int .i64 (z : Int)]) (.int .i64 0)).run Tryz.prog w = .ok (.int .i64 (x : Int)) w := fun _ => by kernel_rfl
  have i1 : ∀ w, (Instr.index 184 (.agg #[.int .i64 (x : Int), .int .i64 (y : Int), .int .i64 (z : Int)]) (.int .i64 1)).run Tryz.prog w = .ok (.int .i64 (y : Int)) w := fun _ => by kernel_rfl
  have i2 : ∀ w, (Instr.index 184 (.agg #[.int .i64 (x : Int), .int .i64 (y : Int), .int .i64 (z : Int)]) (.int .i64 2)).run Tryz.prog w = .ok (.int .i64 (z : Int)) w := fun _ => by kernel_rfl
  clear hI hF
  rcases hcs with ⟨e1, HP⟩ | ⟨e1, e2, t4, HP⟩ | ⟨e1, e2, t4, HP⟩
  all_goals
   go_wp2_with fail
   refine wp_loop_rounds 4 ?_
   rw [rounds_succ]
   go_wp2_with fail
   rw [rounds_succ]
   go_wp2_with fail
   rw [rounds_succ]
   go_wp2_with fail
   rw [rounds_succ]
   go_wp2_with fail
   go_ret2
   exact parse_post HP.out rfl rfl HIR.out.below
theorem off_parse (s : ByteArray) (hs : s.size ≤ 1000000) (w : World) (hE : EnvAt w) :
 Calls Tryz.prog 98 #[.string s] w (parsePost s.data.toList w) := by
 obtain ⟨l, rfl⟩ : ∃ l, s = bs l := ⟨s.data.toList, rfl⟩
 rw [bs_size] at hs
 rw [bs_list]
 by_cases hne : l = []
 · subst hne; exact parse_empty w hE
 · by_cases h45 : l.headD 0 = 45
   · obtain ⟨c, t, rfl⟩ := List.exists_cons_of_ne_nil hne
     obtain rfl : c = 45 := h45
     exact parse_minus t (by rw [List.length_cons] at hs; omega) w hE
   · exact parse_plus l hs hne h45 w hE
end Go.Proofs.YtkpmmabdpeobaaaGreatDoor.Off
