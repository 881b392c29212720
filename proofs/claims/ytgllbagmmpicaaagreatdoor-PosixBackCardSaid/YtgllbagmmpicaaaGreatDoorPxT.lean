/- POSIX TZ strings, the plain laws: local times. The instants at which daylight saving time and standard time begin, the last of them that is not behind an instant; which years have to be looked at. No program in sight. -/
import Derived.Test.YtgllbagmmpicaaaGreatDoorPxL
namespace Go.Proofs.YtgllbagmmpicaaaGreatDoor.Px
open Go.RowKit
open Civ

/-- an instant, and whether daylight saving time begins at it -/
abbrev Ev := Int × Bool
def leE (a b : Ev) : Prop := a.1 < b.1 ∨ (a.1 = b.1 ∧ (a.2 = true → b.2 = true))
theorem leE_refl (a : Ev) : leE a a := .inr ⟨rfl, id⟩
theorem leE_trans {a b c : Ev} (h : leE a b) (k : leE b c) : leE a c := by
  unfold leE at *
  rcases h with h | h <;> rcases k with k | k
  · left; omega
  · left; omega
  · left; omega
  · right; exact ⟨h.1.trans k.1, fun x => k.2 (h.2 x)⟩
theorem leE_anti {a b : Ev} (h : leE a b) (k : leE b a) : a = b := by
  unfold leE at *
  obtain ⟨a1, a2⟩ := a
  obtain ⟨b1, b2⟩ := b
  dsimp only at *
  rcases h with h | h <;> rcases k with k | k
  · omega
  · omega
  · omega
  · obtain ⟨rfl, h2⟩ := h
    cases a2 <;> cases b2 <;> simp_all
/-- the last event, with one more -/
def stepL (t : Int) (s b : Ev) : Ev := if b.1 ≤ t ∧ (s.1 < b.1 ∨ (b.1 = s.1 ∧ b.2 = true)) then b else s
theorem stepL_le (t : Int) (s b : Ev) : leE s (stepL t s b) ∧ (b.1 ≤ t → leE b (stepL t s b)) ∧ (stepL t s b = s ∨ (stepL t s b = b ∧ b.1 ≤ t)) := by
  unfold stepL
  by_cases h : b.1 ≤ t ∧ (s.1 < b.1 ∨ (b.1 = s.1 ∧ b.2 = true))
  · rw [if_pos h]
    refine ⟨?_, fun _ => leE_refl _, .inr ⟨rfl, h.1⟩⟩
    rcases h.2 with h2 | h2
    · exact .inl h2
    · exact .inr ⟨h2.1.symm, fun _ => h2.2⟩
  · rw [if_neg h]
    refine ⟨leE_refl _, fun hb => ?_, .inl rfl⟩
    unfold leE
    by_cases h1 : b.1 < s.1
    · exact .inl h1
    · by_cases h2 : b.1 = s.1
      · exact .inr ⟨h2, fun h3 => absurd ⟨hb, .inr ⟨h2, h3⟩⟩ h⟩
      · exact absurd ⟨hb, .inl (by omega)⟩ h
def begI (p : Pos) (y : Int) : Int := 86400 * dayD p.start y + p.start.sec - p.stdOff
def endI (p : Pos) (y : Int) : Int := 86400 * dayD p.stop y + p.stop.sec - p.dstOff
/-- the events of a year, as the program takes them, and as the reference does -/
def twoP (p : Pos) (t : Int) (s : Ev) (y : Int) : Ev := stepL t (stepL t s (begI p y, true)) (endI p y, false)
def twoR (p : Pos) (t : Int) (s : Ev) (y : Int) : Ev := stepL t (stepL t s (endI p y, false)) (begI p y, true)
def foldY (f : Ev → Int → Ev) (s : Ev) (y : Int) : Nat → Ev
  | 0 => s
  | n + 1 => f (foldY f s y n) (y + n)
/-- what is the last event of some years -/
def IsLast (p : Pos) (t : Int) (s : Ev) (y : Int) (n : Nat) (r : Ev) : Prop := leE s r ∧ (∀ k : Nat, k < n → (begI p (y + k) ≤ t → leE (begI p (y + k), true) r) ∧ (endI p (y + k) ≤ t → leE (endI p (y + k), false) r)) ∧
  (r = s ∨ ∃ k : Nat, k < n ∧ ((r = (begI p (y + k), true) ∧ begI p (y + k) ≤ t) ∨ (r = (endI p (y + k), false) ∧ endI p (y + k) ≤ t)))
theorem isLast_step {p : Pos} {t : Int} {s : Ev} {y : Int} {n : Nat} {r r' : Ev} (h : IsLast p t s y n r) (h1 : leE r r') (h2 : begI p (y + n) ≤ t → leE (begI p (y + n), true) r') (h3 : endI p (y + n) ≤ t → leE (endI p (y + n), false) r')
    (h4 : r' = r ∨ (r' = (begI p (y + n), true) ∧ begI p (y + n) ≤ t) ∨ (r' = (endI p (y + n), false) ∧ endI p (y + n) ≤ t)) : IsLast p t s y (n + 1) r' := by
  obtain ⟨a, b, c⟩ := h
  refine ⟨leE_trans a h1, fun k hk => ?_, ?_⟩
  · by_cases hn : k = n
    · subst hn; exact ⟨h2, h3⟩
    · obtain ⟨u, v⟩ := b k (by omega)
      exact ⟨fun x => leE_trans (u x) h1, fun x => leE_trans (v x) h1⟩
  · rcases h4 with rfl | h4
    · rcases c with c | ⟨k, hk, c⟩
      · exact .inl c
      · exact .inr ⟨k, by omega, c⟩
    · exact .inr ⟨n, by omega, h4⟩
theorem isLast_P (p : Pos) (t : Int) (s : Ev) (y : Int) : ∀ n, IsLast p t s y n (foldY (twoP p t) s y n)
  | 0 => ⟨leE_refl _, fun k hk => absurd hk (by omega), .inl rfl⟩
  | n + 1 => by
    obtain ⟨a1, a2, a3⟩ := stepL_le t (foldY (twoP p t) s y n) (begI p (y + n), true)
    obtain ⟨b1, b2, b3⟩ := stepL_le t (stepL t (foldY (twoP p t) s y n) (begI p (y + n), true)) (endI p (y + n), false)
    refine isLast_step (isLast_P p t s y n) (leE_trans a1 b1) (fun h => leE_trans (a2 h) b1) b2 ?_
    rw [show foldY (twoP p t) s y (n + 1) = stepL t (stepL t (foldY (twoP p t) s y n) (begI p (y + n), true)) (endI p (y + n), false) from rfl]
    rcases b3 with b3 | b3
    · rw [b3]
      rcases a3 with a3 | a3
      · exact .inl a3
      · exact .inr (.inl ⟨a3.1, a3.2⟩)
    · exact .inr (.inr ⟨b3.1, b3.2⟩)
theorem isLast_R (p : Pos) (t : Int) (s : Ev) (y : Int) : ∀ n, IsLast p t s y n (foldY (twoR p t) s y n)
  | 0 => ⟨leE_refl _, fun k hk => absurd hk (by omega), .inl rfl⟩
  | n + 1 => by
    obtain ⟨a1, a2, a3⟩ := stepL_le t (foldY (twoR p t) s y n) (endI p (y + n), false)
    obtain ⟨b1, b2, b3⟩ := stepL_le t (stepL t (foldY (twoR p t) s y n) (endI p (y + n), false)) (begI p (y + n), true)
    refine isLast_step (isLast_R p t s y n) (leE_trans a1 b1) b2 (fun h => leE_trans (a2 h) b1) ?_
    rw [show foldY (twoR p t) s y (n + 1) = stepL t (stepL t (foldY (twoR p t) s y n) (endI p (y + n), false)) (begI p (y + n), true) from rfl]
    rcases b3 with b3 | b3
    · rw [b3]
      rcases a3 with a3 | a3
      · exact .inl a3
      · exact .inr (.inr ⟨a3.1, a3.2⟩)
    · exact .inr (.inl ⟨b3.1, b3.2⟩)
theorem offB_iff {x : Int} : offB x = true ↔ (-89999 ≤ x ∧ x ≤ 89999) := by unfold offB; exact decide_eq_true_iff
/-- what the years behind and ahead of those around an instant are -/
theorem far_years {p : Pos} (h1 : p.start.ok = true) (h2 : p.stop.ok = true) (o1 : offB p.stdOff = true) (o2 : offB p.dstOff = true) {t y Y : Int} (hY1 : jan Y ≤ t / 86400) (hY2 : t / 86400 < jan (Y + 1)) :
    (Y + 1 < y → t < begI p y ∧ t < endI p y) ∧ (y < Y - 1 → begI p y ≤ t ∧ endI p y ≤ t) := by
  rw [offB_iff] at o1 o2
  have s1 := (Dt.ok_iff _).1 h1
  have s2 := (Dt.ok_iff _).1 h2
  have d1 := dayD_bd h1 y
  have d2 := dayD_bd h2 y
  have e := jan_lt (show Y < Y + 1 by omega)
  unfold begI endI
  constructor
  · intro h
    have j1 := jan_lt (show Y + 1 < y by omega)
    omega
  · intro h
    have j1 := jan_lt (show y < Y - 1 by omega)
    have j2 := jan_lt (show Y - 1 < Y by omega)
    omega
theorem beg_mono {p : Pos} (h1 : p.start.ok = true) {y z : Int} (h : y < z) : begI p y ≤ begI p z := by have := dayD_mono h1 h; unfold begI; omega
theorem end_mono {p : Pos} (h1 : p.stop.ok = true) {y z : Int} (h : y < z) : endI p y ≤ endI p z := by have := dayD_mono h1 h; unfold endI; omega
/-- the last event is the same whatever years are looked at, if those around the instant are -/
theorem isLast_le {p : Pos} (h1 : p.start.ok = true) (h2 : p.stop.ok = true) (o1 : offB p.stdOff = true) (o2 : offB p.dstOff = true) {t Y : Int} (hY1 : jan Y ≤ t / 86400) (hY2 : t / 86400 < jan (Y + 1)) {s : Ev} {a b : Int} {n m : Nat} {r q : Ev}
    (hr : IsLast p t s a n r) (hq : IsLast p t s b m q) (hb : b ≤ Y - 2) (hm : Y + 2 ≤ b + m - 1) : leE r q := by
  obtain ⟨_, _, c⟩ := hr
  obtain ⟨x, z, _⟩ := hq
  have hlow := fun y => far_years h1 h2 o1 o2 hY1 hY2 (y := y)
  rcases c with rfl | ⟨k, hk, c⟩
  · exact x
  · have cover : ∀ y, y ≤ Y + 1 → ∃ j : Nat, j < m ∧ (y ≤ b + j) ∧ (y = b + j ∨ (y < b + j ∧ b + (j : Int) < Y - 1)) := by
      intro y hy
      by_cases h : b ≤ y
      · exact ⟨(y - b).toNat, by omega, by omega, .inl (by omega)⟩
      · exact ⟨0, by omega, by omega, .inr ⟨by omega, by omega⟩⟩
    have hle : a + (k : Int) ≤ Y + 1 := by
      by_cases h : Y + 1 < a + (k : Int)
      · have := (hlow _).1 h
        rcases c with c | c <;> omega
      · omega
    obtain ⟨j, hj, _, hjy⟩ := cover _ hle
    rcases c with ⟨rfl, ct⟩ | ⟨rfl, ct⟩
    · rcases hjy with hjy | ⟨hjy, hjl⟩
      · rw [hjy] at ct ⊢
        exact (z j hj).1 ct
      · refine leE_trans ?_ ((z j hj).1 ((hlow _).2 hjl).1)
        have := beg_mono h1 hjy
        unfold leE
        dsimp only
        by_cases he : begI p (a + k) = begI p (b + j)
        · exact .inr ⟨he, id⟩
        · exact .inl (by omega)
    · rcases hjy with hjy | ⟨hjy, hjl⟩
      · rw [hjy] at ct ⊢
        exact (z j hj).2 ct
      · refine leE_trans ?_ ((z j hj).2 ((hlow _).2 hjl).2)
        have := end_mono h2 hjy
        unfold leE
        dsimp only
        by_cases he : endI p (a + k) = endI p (b + j)
        · exact .inr ⟨he, id⟩
        · exact .inl (by omega)
theorem isLast_eq {p : Pos} (h1 : p.start.ok = true) (h2 : p.stop.ok = true) (o1 : offB p.stdOff = true) (o2 : offB p.dstOff = true) {t Y : Int} (hY1 : jan Y ≤ t / 86400) (hY2 : t / 86400 < jan (Y + 1)) {s : Ev} {a b : Int} {n m : Nat} {r q : Ev}
    (hr : IsLast p t s a n r) (hq : IsLast p t s b m q) (ha : a ≤ Y - 2) (hn : Y + 2 ≤ a + n - 1) (hb : b ≤ Y - 2) (hm : Y + 2 ≤ b + m - 1) : r = q :=
  leE_anti (isLast_le h1 h2 o1 o2 hY1 hY2 hr hq hb hm) (isLast_le h1 h2 o1 o2 hY1 hY2 hq hr ha hn)
/-- the first event of all -/
def ev0 : Ev := (-4611686018427387904, false)
/-- the last event that is not behind an instant -/
def lastP (p : Pos) (t : Int) : Ev := foldY (twoP p t) ev0 (yearT t - 2) 5
theorem lastP_R {p : Pos} (h1 : p.start.ok = true) (h2 : p.stop.ok = true) (o1 : offB p.stdOff = true) (o2 : offB p.dstOff = true) (t : Int) (t0 : -36028797018963968 ≤ t) (t1 : t ≤ 36028797018963968) :
    foldY (twoR p t) ev0 (yearT t - 3) 7 = lastP p t := by
  have hy := yearOf_ok (t / 86400)
  have hb : -2000000000 ≤ yearOf (t / 86400) ∧ yearOf (t / 86400) ≤ 2000000000 := by
    obtain ⟨a, b⟩ := hy
    unfold jan at a b
    omega
  have e : yearT t = yearOf (t / 86400) := by unfold yearT; rw [if_neg (by omega), if_neg (by omega)]
  unfold lastP
  rw [e]
  exact isLast_eq h1 h2 o1 o2 hy.1 hy.2 (isLast_R p t ev0 _ 7) (isLast_P p t ev0 _ 5) (by omega) (by omega) (by omega) (by omega)
end Go.Proofs.YtgllbagmmpicaaaGreatDoor.Px
