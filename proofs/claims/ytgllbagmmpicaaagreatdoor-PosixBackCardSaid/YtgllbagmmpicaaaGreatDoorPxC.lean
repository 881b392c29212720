/- The functions posix.in, posix.date, analemmaref37.in, analemmaref37.off and analemmaref37.date: which dates and offsets are right. -/
import Derived.Test.YtgllbagmmpicaaaGreatDoorPxE
namespace Go.Proofs.YtgllbagmmpicaaaGreatDoor.Px
open Go.RowKit
open Civ

theorem in64 (x a b : Int) (r : Bool) (hr : decide (a ≤ x ∧ x ≤ b) = r) (w : World) :
    Calls Tryz.prog 40 #[.int .i64 x, .int .i64 a, .int .i64 b] w fun e w' => e = .returned (.bool r) ∧ w = w' := by
  by_cases h1 : a ≤ x
  · by_cases h2 : x ≤ b
    · obtain rfl : r = true := by rw [← hr]; exact decide_eq_true ⟨h1, h2⟩
      clear hr
      go_enter Tryz.func40, Tryz.ntmps40
      go_wp2_with fail
      go_ret
      exact ⟨rfl, rfl⟩
    · obtain rfl : r = false := by rw [← hr]; exact decide_eq_false (fun h => h2 h.2)
      clear hr
      go_enter Tryz.func40, Tryz.ntmps40
      go_wp2_with fail
      go_ret
      exact ⟨rfl, rfl⟩
  · obtain rfl : r = false := by rw [← hr]; exact decide_eq_false (fun h => h1 h.1)
    clear hr
    go_enter Tryz.func40, Tryz.ntmps40
    go_wp2_with fail
    go_ret
    exact ⟨rfl, rfl⟩
theorem in_int (x a b : Int) (r : Bool) (hr : decide (a ≤ x ∧ x ≤ b) = r) (w : World) :
    Calls Tryz.prog 77 #[.int .i64 x, .int .i64 a, .int .i64 b] w fun e w' => e = .returned (.bool r) ∧ w = w' := by
  by_cases h1 : a ≤ x
  · by_cases h2 : x ≤ b
    · obtain rfl : r = true := by rw [← hr]; exact decide_eq_true ⟨h1, h2⟩
      clear hr
      go_enter Tryz.func77, Tryz.ntmps77
      go_wp2_with fail
      go_ret
      exact ⟨rfl, rfl⟩
    · obtain rfl : r = false := by rw [← hr]; exact decide_eq_false (fun h => h2 h.2)
      clear hr
      go_enter Tryz.func77, Tryz.ntmps77
      go_wp2_with fail
      go_ret
      exact ⟨rfl, rfl⟩
  · obtain rfl : r = false := by rw [← hr]; exact decide_eq_false (fun h => h1 h.1)
    clear hr
    go_enter Tryz.func77, Tryz.ntmps77
    go_wp2_with fail
    go_ret
    exact ⟨rfl, rfl⟩
theorem rin (x a b : Int) (r : Bool) (hr : decide (a ≤ x ∧ x ≤ b) = r) (w : World) :
    Calls Tryz.prog 78 #[.int .i64 x, .int .i64 a, .int .i64 b] w fun e w' => e = .returned (.bool r) ∧ w = w' := by
  by_cases h1 : a ≤ x
  · by_cases h2 : x ≤ b
    · obtain rfl : r = true := by rw [← hr]; exact decide_eq_true ⟨h1, h2⟩
      clear hr
      go_enter Tryz.func78, Tryz.ntmps78
      go_wp2_with fail
      go_ret
      exact ⟨rfl, rfl⟩
    · obtain rfl : r = false := by rw [← hr]; exact decide_eq_false (fun h => h2 h.2)
      clear hr
      go_enter Tryz.func78, Tryz.ntmps78
      go_wp2_with fail
      go_ret
      exact ⟨rfl, rfl⟩
  · obtain rfl : r = false := by rw [← hr]; exact decide_eq_false (fun h => h1 h.1)
    clear hr
    go_enter Tryz.func78, Tryz.ntmps78
    go_wp2_with fail
    go_ret
    exact ⟨rfl, rfl⟩
theorem roff (x : Int) (r : Bool) (hr : decide (-89999 ≤ x ∧ x ≤ 89999) = r) (w : World) :
    Calls Tryz.prog 43 #[.int .i64 x] w fun e w' => e = .returned (.bool r) ∧ w = w' := by
  by_cases h1 : -89999 ≤ x
  · by_cases h2 : x ≤ 89999
    · obtain rfl : r = true := by rw [← hr]; exact decide_eq_true ⟨h1, h2⟩
      clear hr
      go_enter Tryz.func43, Tryz.ntmps43
      go_wp2_with fail
      go_ret
      exact ⟨rfl, rfl⟩
    · obtain rfl : r = false := by rw [← hr]; exact decide_eq_false (fun h => h2 h.2)
      clear hr
      go_enter Tryz.func43, Tryz.ntmps43
      go_wp2_with fail
      go_ret
      exact ⟨rfl, rfl⟩
  · obtain rfl : r = false := by rw [← hr]; exact decide_eq_false (fun h => h1 h.1)
    clear hr
    go_enter Tryz.func43, Tryz.ntmps43
    go_wp2_with fail
    go_ret
    exact ⟨rfl, rfl⟩

theorem ok_1 (dy m k s : Int) : Dt.ok ⟨1, dy, m, k, s⟩ = (decide (-604799 ≤ s ∧ s ≤ 604799) && (decide (1 ≤ dy ∧ dy ≤ 365) && (decide (m = 0) && decide (k = 0)))) := by
  rw [Bool.eq_iff_iff, Dt.ok_iff]; dsimp only; simp only [Bool.and_eq_true, decide_eq_true_eq]
  constructor
  · rintro ⟨a, h | h | h⟩
    · exact ⟨a, ⟨h.2.1, h.2.2.1⟩, h.2.2.2⟩
    · exact absurd h.1 (by decide)
    · exact absurd h.1 (by decide)
  · rintro ⟨a, b, c⟩
    exact ⟨a, .inl ⟨trivial, b.1, b.2, c⟩⟩
theorem ok_2 (dy m k s : Int) : Dt.ok ⟨2, dy, m, k, s⟩ = (decide (-604799 ≤ s ∧ s ≤ 604799) && (decide (0 ≤ dy ∧ dy ≤ 365) && (decide (m = 0) && decide (k = 0)))) := by
  rw [Bool.eq_iff_iff, Dt.ok_iff]; dsimp only; simp only [Bool.and_eq_true, decide_eq_true_eq]
  constructor
  · rintro ⟨a, h | h | h⟩
    · exact absurd h.1 (by decide)
    · exact ⟨a, ⟨h.2.1, h.2.2.1⟩, h.2.2.2⟩
    · exact absurd h.1 (by decide)
  · rintro ⟨a, b, c⟩
    exact ⟨a, .inr (.inl ⟨trivial, b.1, b.2, c⟩)⟩
theorem ok_3 (dy m k s : Int) : Dt.ok ⟨3, dy, m, k, s⟩ = (decide (-604799 ≤ s ∧ s ≤ 604799) && (decide (1 ≤ m ∧ m ≤ 12) && (decide (1 ≤ k ∧ k ≤ 5) && decide (0 ≤ dy ∧ dy ≤ 6)))) := by
  rw [Bool.eq_iff_iff, Dt.ok_iff]; dsimp only; simp only [Bool.and_eq_true, decide_eq_true_eq]
  constructor
  · rintro ⟨a, h | h | h⟩
    · exact absurd h.1 (by decide)
    · exact absurd h.1 (by decide)
    · exact ⟨a, ⟨h.2.1, h.2.2.1⟩, ⟨h.2.2.2.1, h.2.2.2.2.1⟩, h.2.2.2.2.2⟩
  · rintro ⟨a, b, c, d⟩
    exact ⟨a, .inr (.inr ⟨trivial, b.1, b.2, c.1, c.2, d⟩)⟩
theorem ok_4 (kd dy m k s : Int) (h1 : kd ≠ 1) (h2 : kd ≠ 2) (h3 : kd ≠ 3) : Dt.ok ⟨kd, dy, m, k, s⟩ = false := by
  rw [Bool.eq_false_iff, ne_eq, Dt.ok_iff]; dsimp only; omega
set_option maxHeartbeats 2000000 in
theorem date_1 (dy m k s : Int) (w : World) :
    Calls Tryz.prog 41 #[.agg #[.int .i64 1, .int .i64 dy, .int .i64 m, .int .i64 k, .int .i64 s]] w fun e w' => e = .returned (.bool (Dt.ok ⟨1, dy, m, k, s⟩)) ∧ Below w.heap.size w w' := by
  rw [ok_1]
  obtain ⟨bS, hS⟩ : ∃ b, decide (-604799 ≤ s ∧ s ≤ 604799) = b := ⟨_, rfl⟩
  obtain ⟨bD, hD⟩ : ∃ b, decide (1 ≤ dy ∧ dy ≤ 365) = b := ⟨_, rfl⟩
  obtain ⟨bM, hM⟩ : ∃ b, decide (m = 0) = b := ⟨_, rfl⟩
  obtain ⟨bK, hK⟩ : ∃ b, decide (k = 0) = b := ⟨_, rfl⟩
  have tM : (m == 0) = bM := hM
  have tK : (k == 0) = bK := hK
  have CS := Lib.hid (in64 s (-604799) 604799 bS hS)
  have CD := Lib.hid (in_int dy 1 365 bD hD)
  rw [hS, hD, hM, hK]
  clear hS hD hM hK
  cases bS
  · clear tM tK CD
    go_enter Tryz.func41, Tryz.ntmps41
    go_wp2_with fail
    refine (CS.out _).mono ?_
    rintro e w' ⟨rfl, rfl⟩
    go_wp2_with fail
    go_ret
    exact ⟨rfl, ((Below.refl _ _).alloc (Nat.le_refl _) _)⟩
  · cases bD
    · clear tM tK
      go_enter Tryz.func41, Tryz.ntmps41
      go_wp2_with fail
      refine (CS.out _).mono ?_
      rintro e w' ⟨rfl, rfl⟩
      go_wp2_with fail
      refine (CD.out _).mono ?_
      rintro e w' ⟨rfl, rfl⟩
      go_wp2_with fail
      go_ret
      exact ⟨rfl, ((Below.refl _ _).alloc (Nat.le_refl _) _)⟩
    · cases bM
      · clear tK
        go_enter Tryz.func41, Tryz.ntmps41
        go_wp2_with fail
        refine (CS.out _).mono ?_
        rintro e w' ⟨rfl, rfl⟩
        go_wp2_with fail
        refine (CD.out _).mono ?_
        rintro e w' ⟨rfl, rfl⟩
        go_wp2_with fail
        go_ret
        exact ⟨rfl, ((Below.refl _ _).alloc (Nat.le_refl _) _)⟩
      · cases bK
        · go_enter Tryz.func41, Tryz.ntmps41
          go_wp2_with fail
          refine (CS.out _).mono ?_
          rintro e w' ⟨rfl, rfl⟩
          go_wp2_with fail
          refine (CD.out _).mono ?_
          rintro e w' ⟨rfl, rfl⟩
          go_wp2_with fail
          go_ret
          exact ⟨rfl, ((Below.refl _ _).alloc (Nat.le_refl _) _)⟩
        · go_enter Tryz.func41, Tryz.ntmps41
          go_wp2_with fail
          refine (CS.out _).mono ?_
          rintro e w' ⟨rfl, rfl⟩
          go_wp2_with fail
          refine (CD.out _).mono ?_
          rintro e w' ⟨rfl, rfl⟩
          go_wp2_with fail
          go_ret
          exact ⟨rfl, ((Below.refl _ _).alloc (Nat.le_refl _) _)⟩
set_option maxHeartbeats 2000000 in
theorem date_2 (dy m k s : Int) (w : World) :
    Calls Tryz.prog 41 #[.agg #[.int .i64 2, .int .i64 dy, .int .i64 m, .int .i64 k, .int .i64 s]] w fun e w' => e = .returned (.bool (Dt.ok ⟨2, dy, m, k, s⟩)) ∧ Below w.heap.size w w' := by
  rw [ok_2]
  obtain ⟨bS, hS⟩ : ∃ b, decide (-604799 ≤ s ∧ s ≤ 604799) = b := ⟨_, rfl⟩
  obtain ⟨bD, hD⟩ : ∃ b, decide (0 ≤ dy ∧ dy ≤ 365) = b := ⟨_, rfl⟩
  obtain ⟨bM, hM⟩ : ∃ b, decide (m = 0) = b := ⟨_, rfl⟩
  obtain ⟨bK, hK⟩ : ∃ b, decide (k = 0) = b := ⟨_, rfl⟩
  have tM : (m == 0) = bM := hM
  have tK : (k == 0) = bK := hK
  have CS := Lib.hid (in64 s (-604799) 604799 bS hS)
  have CD := Lib.hid (in_int dy 0 365 bD hD)
  rw [hS, hD, hM, hK]
  clear hS hD hM hK
  cases bS
  · clear tM tK CD
    go_enter Tryz.func41, Tryz.ntmps41
    go_wp2_with fail
    refine (CS.out _).mono ?_
    rintro e w' ⟨rfl, rfl⟩
    go_wp2_with fail
    go_ret
    exact ⟨rfl, ((Below.refl _ _).alloc (Nat.le_refl _) _)⟩
  · cases bD
    · clear tM tK
      go_enter Tryz.func41, Tryz.ntmps41
      go_wp2_with fail
      refine (CS.out _).mono ?_
      rintro e w' ⟨rfl, rfl⟩
      go_wp2_with fail
      refine (CD.out _).mono ?_
      rintro e w' ⟨rfl, rfl⟩
      go_wp2_with fail
      go_ret
      exact ⟨rfl, ((Below.refl _ _).alloc (Nat.le_refl _) _)⟩
    · cases bM
      · clear tK
        go_enter Tryz.func41, Tryz.ntmps41
        go_wp2_with fail
        refine (CS.out _).mono ?_
        rintro e w' ⟨rfl, rfl⟩
        go_wp2_with fail
        refine (CD.out _).mono ?_
        rintro e w' ⟨rfl, rfl⟩
        go_wp2_with fail
        go_ret
        exact ⟨rfl, ((Below.refl _ _).alloc (Nat.le_refl _) _)⟩
      · cases bK
        · go_enter Tryz.func41, Tryz.ntmps41
          go_wp2_with fail
          refine (CS.out _).mono ?_
          rintro e w' ⟨rfl, rfl⟩
          go_wp2_with fail
          refine (CD.out _).mono ?_
          rintro e w' ⟨rfl, rfl⟩
          go_wp2_with fail
          go_ret
          exact ⟨rfl, ((Below.refl _ _).alloc (Nat.le_refl _) _)⟩
        · go_enter Tryz.func41, Tryz.ntmps41
          go_wp2_with fail
          refine (CS.out _).mono ?_
          rintro e w' ⟨rfl, rfl⟩
          go_wp2_with fail
          refine (CD.out _).mono ?_
          rintro e w' ⟨rfl, rfl⟩
          go_wp2_with fail
          go_ret
          exact ⟨rfl, ((Below.refl _ _).alloc (Nat.le_refl _) _)⟩
set_option maxHeartbeats 2000000 in
theorem date_3 (dy m k s : Int) (w : World) :
    Calls Tryz.prog 41 #[.agg #[.int .i64 3, .int .i64 dy, .int .i64 m, .int .i64 k, .int .i64 s]] w fun e w' => e = .returned (.bool (Dt.ok ⟨3, dy, m, k, s⟩)) ∧ Below w.heap.size w w' := by
  rw [ok_3]
  obtain ⟨bS, hS⟩ : ∃ b, decide (-604799 ≤ s ∧ s ≤ 604799) = b := ⟨_, rfl⟩
  obtain ⟨bM, hM⟩ : ∃ b, decide (1 ≤ m ∧ m ≤ 12) = b := ⟨_, rfl⟩
  obtain ⟨bK, hK⟩ : ∃ b, decide (1 ≤ k ∧ k ≤ 5) = b := ⟨_, rfl⟩
  obtain ⟨bD, hD⟩ : ∃ b, decide (0 ≤ dy ∧ dy ≤ 6) = b := ⟨_, rfl⟩
  have CS := Lib.hid (in64 s (-604799) 604799 bS hS)
  have CM := Lib.hid (in_int m 1 12 bM hM)
  have CK := Lib.hid (in_int k 1 5 bK hK)
  have CD := Lib.hid (in_int dy 0 6 bD hD)
  rw [hS, hD, hM, hK]
  clear hS hD hM hK
  cases bS
  · clear CD CM CK
    go_enter Tryz.func41, Tryz.ntmps41
    go_wp2_with fail
    refine (CS.out _).mono ?_
    rintro e w' ⟨rfl, rfl⟩
    go_wp2_with fail
    go_ret
    exact ⟨rfl, ((Below.refl _ _).alloc (Nat.le_refl _) _)⟩
  · skip
    cases bM
    · go_enter Tryz.func41, Tryz.ntmps41
      go_wp2_with fail
      refine (CS.out _).mono ?_
      rintro e w' ⟨rfl, rfl⟩
      go_wp2_with fail
      refine (CM.out _).mono ?_
      rintro e w' ⟨rfl, rfl⟩
      go_wp2_with fail
      go_ret
      exact ⟨rfl, ((Below.refl _ _).alloc (Nat.le_refl _) _)⟩
    · cases bK
      · go_enter Tryz.func41, Tryz.ntmps41
        go_wp2_with fail
        refine (CS.out _).mono ?_
        rintro e w' ⟨rfl, rfl⟩
        go_wp2_with fail
        refine (CM.out _).mono ?_
        rintro e w' ⟨rfl, rfl⟩
        go_wp2_with fail
        refine (CK.out _).mono ?_
        rintro e w' ⟨rfl, rfl⟩
        go_wp2_with fail
        go_ret
        exact ⟨rfl, ((Below.refl _ _).alloc (Nat.le_refl _) _)⟩
      · cases bD
        · go_enter Tryz.func41, Tryz.ntmps41
          go_wp2_with fail
          refine (CS.out _).mono ?_
          rintro e w' ⟨rfl, rfl⟩
          go_wp2_with fail
          refine (CM.out _).mono ?_
          rintro e w' ⟨rfl, rfl⟩
          go_wp2_with fail
          refine (CK.out _).mono ?_
          rintro e w' ⟨rfl, rfl⟩
          go_wp2_with fail
          refine (CD.out _).mono ?_
          rintro e w' ⟨rfl, rfl⟩
          go_wp2_with fail
          go_ret
          exact ⟨rfl, ((Below.refl _ _).alloc (Nat.le_refl _) _)⟩
        · go_enter Tryz.func41, Tryz.ntmps41
          go_wp2_with fail
          refine (CS.out _).mono ?_
          rintro e w' ⟨rfl, rfl⟩
          go_wp2_with fail
          refine (CM.out _).mono ?_
          rintro e w' ⟨rfl, rfl⟩
          go_wp2_with fail
          refine (CK.out _).mono ?_
          rintro e w' ⟨rfl, rfl⟩
          go_wp2_with fail
          refine (CD.out _).mono ?_
          rintro e w' ⟨rfl, rfl⟩
          go_wp2_with fail
          go_ret
          exact ⟨rfl, ((Below.refl _ _).alloc (Nat.le_refl _) _)⟩
set_option maxHeartbeats 2000000 in
theorem date_4 (kd dy m k s : Int) (h1 : kd ≠ 1) (h2 : kd ≠ 2) (h3 : kd ≠ 3) (w : World) :
    Calls Tryz.prog 41 #[.agg #[.int .i64 kd, .int .i64 dy, .int .i64 m, .int .i64 k, .int .i64 s]] w fun e w' => e = .returned (.bool (Dt.ok ⟨kd, dy, m, k, s⟩)) ∧ Below w.heap.size w w' := by
  rw [ok_4 kd dy m k s h1 h2 h3]
  have t1 : (kd == 1) = false := by rw [beq_eq_false_iff_ne]; exact h1
  have t2 : (kd == 2) = false := by rw [beq_eq_false_iff_ne]; exact h2
  have t3 : (kd == 3) = false := by rw [beq_eq_false_iff_ne]; exact h3
  clear h1 h2 h3
  obtain ⟨bS, hS⟩ : ∃ b, decide (-604799 ≤ s ∧ s ≤ 604799) = b := ⟨_, rfl⟩
  have CS := Lib.hid (in64 s (-604799) 604799 bS hS)
  clear hS
  cases bS
  · go_enter Tryz.func41, Tryz.ntmps41
    go_wp2_with fail
    refine (CS.out _).mono ?_
    rintro e w' ⟨rfl, rfl⟩
    go_wp2_with fail
    go_ret
    exact ⟨rfl, ((Below.refl _ _).alloc (Nat.le_refl _) _)⟩
  · go_enter Tryz.func41, Tryz.ntmps41
    go_wp2_with fail
    refine (CS.out _).mono ?_
    rintro e w' ⟨rfl, rfl⟩
    go_wp2_with fail
    go_ret
    exact ⟨rfl, ((Below.refl _ _).alloc (Nat.le_refl _) _)⟩
theorem date_any (d : Dt) (w : World) : Calls Tryz.prog 41 #[d.val] w fun e w' => e = .returned (.bool d.ok) ∧ Below w.heap.size w w' := by
  obtain ⟨kd, dy, m, k, s⟩ := d
  by_cases h1 : kd = 1
  · subst h1; exact date_1 dy m k s w
  · by_cases h2 : kd = 2
    · subst h2; exact date_2 dy m k s w
    · by_cases h3 : kd = 3
      · subst h3; exact date_3 dy m k s w
      · exact date_4 kd dy m k s h1 h2 h3 w
set_option maxHeartbeats 2000000 in
theorem ref_date_1 (dy m k s : Int) (w : World) :
    Calls Tryz.prog 44 #[.agg #[.int .i64 1, .int .i64 dy, .int .i64 m, .int .i64 k, .int .i64 s]] w fun e w' => e = .returned (.bool (Dt.ok ⟨1, dy, m, k, s⟩)) ∧ Below w.heap.size w w' := by
  rw [ok_1]
  obtain ⟨bS, hS⟩ : ∃ b, decide (-604799 ≤ s ∧ s ≤ 604799) = b := ⟨_, rfl⟩
  obtain ⟨bD, hD⟩ : ∃ b, decide (1 ≤ dy ∧ dy ≤ 365) = b := ⟨_, rfl⟩
  obtain ⟨bM, hM⟩ : ∃ b, decide (m = 0) = b := ⟨_, rfl⟩
  obtain ⟨bK, hK⟩ : ∃ b, decide (k = 0) = b := ⟨_, rfl⟩
  have tM : (m == 0) = bM := hM
  have tK : (k == 0) = bK := hK
  have CD := Lib.hid (rin dy 1 365 bD hD)
  rw [hS, hD, hM, hK]
  cases bS
  · have hs := of_decide_eq_false hS
    clear hS hD hM hK tM tK CD
    by_cases s1 : s < -604799
    · go_enter Tryz.func44, Tryz.ntmps44
      go_wp2_with fail
      go_ret
      exact ⟨rfl, ((Below.refl _ _).alloc (Nat.le_refl _) _)⟩
    · have s2 : 604799 < s := by omega
      clear hs
      go_enter Tryz.func44, Tryz.ntmps44
      go_wp2_with fail
      go_ret
      exact ⟨rfl, ((Below.refl _ _).alloc (Nat.le_refl _) _)⟩
  · obtain ⟨s1, s2⟩ := of_decide_eq_true hS
    clear hS hD hM hK
    cases bD
    · clear tM tK
      go_enter Tryz.func44, Tryz.ntmps44
      go_wp2_with fail
      refine (CD.out _).mono ?_
      rintro e w' ⟨rfl, rfl⟩
      go_wp2_with fail
      go_ret
      exact ⟨rfl, ((Below.refl _ _).alloc (Nat.le_refl _) _)⟩
    · cases bM
      · clear tK
        go_enter Tryz.func44, Tryz.ntmps44
        go_wp2_with fail
        refine (CD.out _).mono ?_
        rintro e w' ⟨rfl, rfl⟩
        go_wp2_with fail
        go_ret
        exact ⟨rfl, ((Below.refl _ _).alloc (Nat.le_refl _) _)⟩
      · cases bK
        · go_enter Tryz.func44, Tryz.ntmps44
          go_wp2_with fail
          refine (CD.out _).mono ?_
          rintro e w' ⟨rfl, rfl⟩
          go_wp2_with fail
          go_ret
          exact ⟨rfl, ((Below.refl _ _).alloc (Nat.le_refl _) _)⟩
        · go_enter Tryz.func44, Tryz.ntmps44
          go_wp2_with fail
          refine (CD.out _).mono ?_
          rintro e w' ⟨rfl, rfl⟩
          go_wp2_with fail
          go_ret
          exact ⟨rfl, ((Below.refl _ _).alloc (Nat.le_refl _) _)⟩
set_option maxHeartbeats 2000000 in
theorem ref_date_2 (dy m k s : Int) (w : World) :
    Calls Tryz.prog 44 #[.agg #[.int .i64 2, .int .i64 dy, .int .i64 m, .int .i64 k, .int .i64 s]] w fun e w' => e = .returned (.bool (Dt.ok ⟨2, dy, m, k, s⟩)) ∧ Below w.heap.size w w' := by
  rw [ok_2]
  obtain ⟨bS, hS⟩ : ∃ b, decide (-604799 ≤ s ∧ s ≤ 604799) = b := ⟨_, rfl⟩
  obtain ⟨bD, hD⟩ : ∃ b, decide (0 ≤ dy ∧ dy ≤ 365) = b := ⟨_, rfl⟩
  obtain ⟨bM, hM⟩ : ∃ b, decide (m = 0) = b := ⟨_, rfl⟩
  obtain ⟨bK, hK⟩ : ∃ b, decide (k = 0) = b := ⟨_, rfl⟩
  have tM : (m == 0) = bM := hM
  have tK : (k == 0) = bK := hK
  have CD := Lib.hid (rin dy 0 365 bD hD)
  rw [hS, hD, hM, hK]
  cases bS
  · have hs := of_decide_eq_false hS
    clear hS hD hM hK tM tK CD
    by_cases s1 : s < -604799
    · go_enter Tryz.func44, Tryz.ntmps44
      go_wp2_with fail
      go_ret
      exact ⟨rfl, ((Below.refl _ _).alloc (Nat.le_refl _) _)⟩
    · have s2 : 604799 < s := by omega
      clear hs
      go_enter Tryz.func44, Tryz.ntmps44
      go_wp2_with fail
      go_ret
      exact ⟨rfl, ((Below.refl _ _).alloc (Nat.le_refl _) _)⟩
  · obtain ⟨s1, s2⟩ := of_decide_eq_true hS
    clear hS hD hM hK
    cases bD
    · clear tM tK
      go_enter Tryz.func44, Tryz.ntmps44
      go_wp2_with fail
      refine (CD.out _).mono ?_
      rintro e w' ⟨rfl, rfl⟩
      go_wp2_with fail
      go_ret
      exact ⟨rfl, ((Below.refl _ _).alloc (Nat.le_refl _) _)⟩
    · cases bM
      · clear tK
        go_enter Tryz.func44, Tryz.ntmps44
        go_wp2_with fail
        refine (CD.out _).mono ?_
        rintro e w' ⟨rfl, rfl⟩
        go_wp2_with fail
        go_ret
        exact ⟨rfl, ((Below.refl _ _).alloc (Nat.le_refl _) _)⟩
      · cases bK
        · go_enter Tryz.func44, Tryz.ntmps44
          go_wp2_with fail
          refine (CD.out _).mono ?_
          rintro e w' ⟨rfl, rfl⟩
          go_wp2_with fail
          go_ret
          exact ⟨rfl, ((Below.refl _ _).alloc (Nat.le_refl _) _)⟩
        · go_enter Tryz.func44, Tryz.ntmps44
          go_wp2_with fail
          refine (CD.out _).mono ?_
          rintro e w' ⟨rfl, rfl⟩
          go_wp2_with fail
          go_ret
          exact ⟨rfl, ((Below.refl _ _).alloc (Nat.le_refl _) _)⟩
set_option maxHeartbeats 2000000 in
theorem ref_date_3 (dy m k s : Int) (w : World) :
    Calls Tryz.prog 44 #[.agg #[.int .i64 3, .int .i64 dy, .int .i64 m, .int .i64 k, .int .i64 s]] w fun e w' => e = .returned (.bool (Dt.ok ⟨3, dy, m, k, s⟩)) ∧ Below w.heap.size w w' := by
  rw [ok_3]
  obtain ⟨bS, hS⟩ : ∃ b, decide (-604799 ≤ s ∧ s ≤ 604799) = b := ⟨_, rfl⟩
  obtain ⟨bM, hM⟩ : ∃ b, decide (1 ≤ m ∧ m ≤ 12) = b := ⟨_, rfl⟩
  obtain ⟨bK, hK⟩ : ∃ b, decide (1 ≤ k ∧ k ≤ 5) = b := ⟨_, rfl⟩
  obtain ⟨bD, hD⟩ : ∃ b, decide (0 ≤ dy ∧ dy ≤ 6) = b := ⟨_, rfl⟩
  have CM := Lib.hid (rin m 1 12 bM hM)
  have CK := Lib.hid (rin k 1 5 bK hK)
  have CD := Lib.hid (rin dy 0 6 bD hD)
  rw [hS, hD, hM, hK]
  cases bS
  · have hs := of_decide_eq_false hS
    clear hS hD hM hK CD CM CK
    by_cases s1 : s < -604799
    · go_enter Tryz.func44, Tryz.ntmps44
      go_wp2_with fail
      go_ret
      exact ⟨rfl, ((Below.refl _ _).alloc (Nat.le_refl _) _)⟩
    · have s2 : 604799 < s := by omega
      clear hs
      go_enter Tryz.func44, Tryz.ntmps44
      go_wp2_with fail
      go_ret
      exact ⟨rfl, ((Below.refl _ _).alloc (Nat.le_refl _) _)⟩
  · obtain ⟨s1, s2⟩ := of_decide_eq_true hS
    clear hS hD hM hK
    cases bM
    · go_enter Tryz.func44, Tryz.ntmps44
      go_wp2_with fail
      refine (CM.out _).mono ?_
      rintro e w' ⟨rfl, rfl⟩
      go_wp2_with fail
      go_ret
      exact ⟨rfl, ((Below.refl _ _).alloc (Nat.le_refl _) _)⟩
    · cases bK
      · go_enter Tryz.func44, Tryz.ntmps44
        go_wp2_with fail
        refine (CM.out _).mono ?_
        rintro e w' ⟨rfl, rfl⟩
        go_wp2_with fail
        refine (CK.out _).mono ?_
        rintro e w' ⟨rfl, rfl⟩
        go_wp2_with fail
        go_ret
        exact ⟨rfl, ((Below.refl _ _).alloc (Nat.le_refl _) _)⟩
      · cases bD
        · go_enter Tryz.func44, Tryz.ntmps44
          go_wp2_with fail
          refine (CM.out _).mono ?_
          rintro e w' ⟨rfl, rfl⟩
          go_wp2_with fail
          refine (CK.out _).mono ?_
          rintro e w' ⟨rfl, rfl⟩
          go_wp2_with fail
          refine (CD.out _).mono ?_
          rintro e w' ⟨rfl, rfl⟩
          go_wp2_with fail
          go_ret
          exact ⟨rfl, ((Below.refl _ _).alloc (Nat.le_refl _) _)⟩
        · go_enter Tryz.func44, Tryz.ntmps44
          go_wp2_with fail
          refine (CM.out _).mono ?_
          rintro e w' ⟨rfl, rfl⟩
          go_wp2_with fail
          refine (CK.out _).mono ?_
          rintro e w' ⟨rfl, rfl⟩
          go_wp2_with fail
          refine (CD.out _).mono ?_
          rintro e w' ⟨rfl, rfl⟩
          go_wp2_with fail
          go_ret
          exact ⟨rfl, ((Below.refl _ _).alloc (Nat.le_refl _) _)⟩
set_option maxHeartbeats 2000000 in
theorem ref_date_4 (kd dy m k s : Int) (h1 : kd ≠ 1) (h2 : kd ≠ 2) (h3 : kd ≠ 3) (w : World) :
    Calls Tryz.prog 44 #[.agg #[.int .i64 kd, .int .i64 dy, .int .i64 m, .int .i64 k, .int .i64 s]] w fun e w' => e = .returned (.bool (Dt.ok ⟨kd, dy, m, k, s⟩)) ∧ Below w.heap.size w w' := by
  rw [ok_4 kd dy m k s h1 h2 h3]
  have t1 : (kd == 1) = false := by rw [beq_eq_false_iff_ne]; exact h1
  have t2 : (kd == 2) = false := by rw [beq_eq_false_iff_ne]; exact h2
  have t3 : (kd == 3) = false := by rw [beq_eq_false_iff_ne]; exact h3
  clear h1 h2 h3
  by_cases s1 : s < -604799
  · go_enter Tryz.func44, Tryz.ntmps44
    go_wp2_with fail
    go_ret
    exact ⟨rfl, ((Below.refl _ _).alloc (Nat.le_refl _) _)⟩
  · by_cases s2 : 604799 < s
    · go_enter Tryz.func44, Tryz.ntmps44
      go_wp2_with fail
      go_ret
      exact ⟨rfl, ((Below.refl _ _).alloc (Nat.le_refl _) _)⟩
    · go_enter Tryz.func44, Tryz.ntmps44
      go_wp2_with fail
      go_ret
      exact ⟨rfl, ((Below.refl _ _).alloc (Nat.le_refl _) _)⟩
theorem ref_date_any (d : Dt) (w : World) : Calls Tryz.prog 44 #[d.val] w fun e w' => e = .returned (.bool d.ok) ∧ Below w.heap.size w w' := by
  obtain ⟨kd, dy, m, k, s⟩ := d
  by_cases h1 : kd = 1
  · subst h1; exact ref_date_1 dy m k s w
  · by_cases h2 : kd = 2
    · subst h2; exact ref_date_2 dy m k s w
    · by_cases h3 : kd = 3
      · subst h3; exact ref_date_3 dy m k s w
      · exact ref_date_4 kd dy m k s h1 h2 h3 w
end Go.Proofs.YtgllbagmmpicaaaGreatDoor.Px
