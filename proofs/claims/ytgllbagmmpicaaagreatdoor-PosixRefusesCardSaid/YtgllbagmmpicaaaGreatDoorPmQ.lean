/- The laws of local times, plain: they are the same 400 years later; daylight saving time all year. No program in sight. -/
import Derived.Test.YtgllbagmmpicaaaGreatDoorPmP
namespace Go.Proofs.YtgllbagmmpicaaaGreatDoor.Px
open Go.RowKit
open Civ

theorem year_bd {t : Int} (t0 : -36028797018963968 ≤ t) (t1 : t ≤ 36028797018963968) : yearT t = yearOf (t / 86400) ∧ -2000000000 ≤ yearOf (t / 86400) ∧ yearOf (t / 86400) ≤ 2000000000 := by
  have hy := yearOf_ok (t / 86400)
  have hb : -2000000000 ≤ yearOf (t / 86400) ∧ yearOf (t / 86400) ≤ 2000000000 := by
    obtain ⟨a, b⟩ := hy
    unfold jan at a b
    omega
  refine ⟨?_, hb⟩
  unfold yearT; rw [if_neg (by omega), if_neg (by omega)]
theorem beg_400 (p : Pos) (y c : Int) : begI p (y + 400 * c) = begI p y + 12622780800 * c := by
  unfold begI; rw [dayD_400]; omega
theorem end_400 (p : Pos) (y c : Int) : endI p (y + 400 * c) = endI p y + 12622780800 * c := by
  unfold endI; rw [dayD_400]; omega
/-- two last events, one some seconds later than the other, or none of all -/
def Later (C : Int) (s s' : Ev) : Prop := (s = ev0 ∧ s' = ev0) ∨ (s' = (s.1 + C, s.2) ∧ -4000000000000000000 < s.1)
theorem later_step {C t : Int} (hC : 0 ≤ C) {s s' : Ev} (h : Later C s s') (x : Int) (q : Bool) (hx : -4000000000000000000 < x) :
    Later C (stepL t s (x, q)) (stepL (t + C) s' (x + C, q)) := by
  rcases h with ⟨rfl, rfl⟩ | ⟨rfl, hs⟩
  · by_cases ht : x ≤ t
    · rw [stepL_pos ⟨ht, .inl (by unfold ev0; dsimp only; omega)⟩, stepL_pos ⟨by dsimp only; omega, .inl (by unfold ev0; dsimp only; omega)⟩]
      exact .inr ⟨rfl, hx⟩
    · rw [stepL_neg (by dsimp only; omega), stepL_neg (by dsimp only; omega)]
      exact .inl ⟨rfl, rfl⟩
  · by_cases hc : x ≤ t ∧ (s.1 < x ∨ (x = s.1 ∧ q = true))
    · rw [stepL_pos hc, stepL_pos (b := (x + C, q)) (s := (s.1 + C, s.2)) ⟨by dsimp only; omega, by
        rcases hc.2 with h | h
        · left; dsimp only; omega
        · right; exact ⟨by dsimp only; omega, h.2⟩⟩]
      exact .inr ⟨rfl, hx⟩
    · rw [stepL_neg hc, stepL_neg (b := (x + C, q)) (s := (s.1 + C, s.2)) (by
        rintro ⟨h1, h2⟩
        apply hc
        refine ⟨by dsimp only at h1; omega, ?_⟩
        rcases h2 with h | h
        · left; dsimp only at h; omega
        · right; exact ⟨by have := h.1; dsimp only at this; omega, h.2⟩)]
      exact .inr ⟨rfl, hs⟩
theorem beg_low {p : Pos} (h1 : p.start.ok = true) (o1 : offB p.stdOff = true) {y : Int} (hy : -2000000010 ≤ y) : -4000000000000000000 < begI p y := by
  have d := (dayD_bd h1 y).1
  have s := ((Dt.ok_iff _).1 h1).1
  rw [offB_iff] at o1
  unfold begI
  unfold jan at d
  omega
theorem end_low {p : Pos} (h1 : p.stop.ok = true) (o1 : offB p.dstOff = true) {y : Int} (hy : -2000000010 ≤ y) : -4000000000000000000 < endI p y := by
  have d := (dayD_bd h1 y).1
  have s := ((Dt.ok_iff _).1 h1).1
  rw [offB_iff] at o1
  unfold endI
  unfold jan at d
  omega
theorem fold_later {p : Pos} (h1 : p.start.ok = true) (h2 : p.stop.ok = true) (o1 : offB p.stdOff = true) (o2 : offB p.dstOff = true) {t c y : Int} (hc : 0 ≤ c) (hy : -2000000005 ≤ y) :
    ∀ n : Nat, Later (12622780800 * c) (foldY (twoP p t) ev0 y n) (foldY (twoP p (t + 12622780800 * c)) ev0 (y + 400 * c) n)
  | 0 => .inl ⟨rfl, rfl⟩
  | n + 1 => by
    have ih := fold_later h1 h2 o1 o2 (t := t) hc hy n
    show Later _ (twoP p t (foldY _ _ _ n) (y + n)) (twoP p _ (foldY _ _ _ n) (y + 400 * c + n))
    unfold twoP
    rw [show y + 400 * c + (n : Int) = y + n + 400 * c by omega, beg_400, end_400]
    exact later_step (by omega) (later_step (by omega) ih _ _ (beg_low h1 o1 (by omega))) _ _ (end_low h2 o2 (by omega))
theorem last_400 {p : Pos} (h1 : p.start.ok = true) (h2 : p.stop.ok = true) (o1 : offB p.stdOff = true) (o2 : offB p.dstOff = true) {t c : Int} (hc : 0 ≤ c) (t0 : -36028797018963968 ≤ t) (t1 : t + 12622780800 * c ≤ 36028797018963968) :
    (lastP p (t + 12622780800 * c)).2 = (lastP p t).2 := by
  obtain ⟨e1, b1, b2⟩ := year_bd t0 (by omega)
  obtain ⟨e2, _, _⟩ := year_bd (t := t + 12622780800 * c) (by omega) t1
  have hd : (t + 12622780800 * c) / 86400 = t / 86400 + 146097 * c := by omega
  have hq : yearOf (t / 86400 + 146097 * c) = yearOf (t / 86400) + 400 * c := by
    refine yearOf_eq ?_ ?_
    · rw [jan_400]; have := (yearOf_ok (t / 86400)).1; omega
    · rw [show yearOf (t / 86400) + 400 * c + 1 = yearOf (t / 86400) + 1 + 400 * c by omega, jan_400]; have := (yearOf_ok (t / 86400)).2; omega
  unfold lastP
  rw [e1, e2, hd, hq, show yearOf (t / 86400) + 400 * c - 2 = yearOf (t / 86400) - 2 + 400 * c by omega]
  rcases fold_later h1 h2 o1 o2 (t := t) hc (y := yearOf (t / 86400) - 2) (by omega) 5 with ⟨a, b⟩ | ⟨a, _⟩
  · rw [a, b]
  · rw [a]
theorem none_at {p : Pos} (hp : p.ok = true) (he : p.dst.toList.isEmpty = true) {t : Int} (t0 : -36028797018963968 ≤ t) (t1 : t ≤ 36028797018963968) : atP p t = (Loc p.stdOff false p.std, 0) := by
  unfold atP
  rw [if_neg (show ¬ p.ok = false by rw [hp]; decide), if_neg (show ¬ (t < -36028797018963968 ∨ 36028797018963968 < t) by omega), if_pos he]
theorem some_at {p : Pos} (hp : p.ok = true) (he : p.dst.toList.isEmpty = false) {t : Int} (t0 : -36028797018963968 ≤ t) (t1 : t ≤ 36028797018963968) : atP p t = (.agg (locOf p.std p.dst p.stdOff p.dstOff (lastP p t).2), 0) := by
  unfold atP
  rw [if_neg (show ¬ p.ok = false by rw [hp]; decide), if_neg (show ¬ (t < -36028797018963968 ∨ 36028797018963968 < t) by omega), if_neg (show ¬ p.dst.toList.isEmpty = true by rw [he]; decide)]
/-- local times are the same some cycles later -/
theorem at_400 {p : Pos} (hp : p.ok = true) {t c : Int} (hc : 0 ≤ c) (t0 : -36028797018963968 ≤ t) (t1 : t + 12622780800 * c ≤ 36028797018963968) : atP p (t + 12622780800 * c) = atP p t := by
  cases h : p.dst.toList.isEmpty
  · obtain ⟨q1, q2, q3, q4⟩ := ok_parts hp h
    rw [some_at hp h (by omega) t1, some_at hp h t0 (by omega), last_400 q1 q2 q3 q4 hc t0 t1]
  · rw [none_at hp h (by omega) t1, none_at hp h t0 (by omega)]
/-- what a local time is -/
theorem at_two {p : Pos} (hp : p.ok = true) {t : Int} (t0 : -36028797018963968 ≤ t) (t1 : t ≤ 36028797018963968) :
    atP p t = (Loc p.stdOff false p.std, 0) ∨ (p.dst.toList.isEmpty = false ∧ atP p t = (Loc p.dstOff true p.dst, 0)) := by
  cases h : p.dst.toList.isEmpty
  · rw [some_at hp h t0 t1]
    cases hl : (lastP p t).2
    · exact .inl rfl
    · exact .inr ⟨rfl, rfl⟩
  · exact .inl (none_at hp h t0 t1)
/-- daylight saving time that begins with each year and ends with it -/
def always (p : Pos) : Pos := { p with start := ⟨2, 0, 0, 0, 0⟩, stop := ⟨1, 365, 0, 0, 86400 + p.dstOff - p.stdOff⟩ }
theorem always_ends (p : Pos) (y : Int) : endI (always p) y = begI (always p) (y + 1) := by
  have hs := jan_succ y
  have e1 : dayD (always p).stop y = (if 59 < (365 : Int) ∧ leapB y = true then jan y + 365 else jan y + 365 - 1) := rfl
  have e2 : dayD (always p).start (y + 1) = jan (y + 1) + 0 := rfl
  have e3 : (always p).stop.sec = 86400 + p.dstOff - p.stdOff := rfl
  have e4 : (always p).start.sec = 0 := rfl
  have e5 : (always p).stdOff = p.stdOff := rfl
  have e6 : (always p).dstOff = p.dstOff := rfl
  unfold endI begI
  rw [e1, e2, e3, e4, e5, e6]
  unfold sizeI at hs
  by_cases h : leapB y = true
  · rw [if_pos ⟨by decide, h⟩]
    rw [if_pos h] at hs
    omega
  · rw [if_neg (fun k => h k.2)]
    rw [if_neg h] at hs
    omega
theorem always_last {p : Pos} (h1 : (always p).start.ok = true) (h2 : (always p).stop.ok = true) (o1 : offB p.stdOff = true) (o2 : offB p.dstOff = true) {t : Int} (t0 : -36028797018963968 ≤ t) (t1 : t ≤ 36028797018963968) : (lastP (always p) t).2 = true := by
  have hy := yearOf_ok (t / 86400)
  obtain ⟨e, b1, b2⟩ := year_bd t0 t1
  have hl := isLast_P (always p) t ev0 (yearT t - 2) 5
  obtain ⟨Y, hY⟩ : ∃ Y, yearOf (t / 86400) = Y := ⟨_, rfl⟩
  rw [hY] at hy b1 b2 e
  have far := fun y => far_years h1 h2 o1 o2 hy.1 hy.2 (y := y)
  rw [show foldY (twoP (always p) t) ev0 (yearT t - 2) 5 = lastP (always p) t from rfl, e] at hl
  obtain ⟨_, hb, hc⟩ := hl
  rcases hc with hc | ⟨k, hk, hc | hc⟩
  · have := (hb 0 (by omega)).1 ((far _).2 (by omega)).1
    rw [hc] at this
    have low := beg_low h1 o1 (y := Y - 2 + (0 : Nat)) (by omega)
    unfold leE ev0 at this
    dsimp only at this
    omega
  · rw [hc.1]
  · exfalso
    have h3 := always_ends p (Y - 2 + k)
    by_cases h4 : k = 4
    · subst h4
      have := ((far (Y - 2 + (4 : Nat))).1 (by omega)).2
      omega
    · have h5 := (hb (k + 1) (by omega)).1 (by rw [show Y - 2 + ((k + 1 : Nat) : Int) = Y - 2 + k + 1 by omega, ← h3]; exact hc.2)
      rw [hc.1, show Y - 2 + ((k + 1 : Nat) : Int) = Y - 2 + k + 1 by omega, ← h3] at h5
      unfold leE at h5
      dsimp only at h5
      rcases h5 with h5 | h5
      · omega
      · have := h5.2 rfl
        cases this
theorem always_at {p : Pos} (hp : (always p).ok = true) (hne : p.dst.toList.isEmpty = false) {t : Int} (t0 : -36028797018963968 ≤ t) (t1 : t ≤ 36028797018963968) : atP (always p) t = (Loc p.dstOff true p.dst, 0) := by
  obtain ⟨q1, q2, q3, q4⟩ := ok_parts hp hne
  rw [some_at hp hne t0 t1, always_last q1 q2 q3 q4 t0 t1]
  rfl
end Go.Proofs.YtgllbagmmpicaaaGreatDoor.Px
