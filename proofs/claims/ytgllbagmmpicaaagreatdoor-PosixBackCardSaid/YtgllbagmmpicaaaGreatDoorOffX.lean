/- The functions offset.two and offset.Print. -/
import Derived.Test.YtgllbagmmpicaaaGreatDoorOffT
import Derived.Lib.AppendIntMem
namespace Go.Proofs.YtgllbagmmpicaaaGreatDoor.Off
open Go.RowKit
open Civ
open Px (len_list bs bs_list bs_size EnvAt)

theorem dec_lib {n : Nat} (h : n < 1000) : Lib.decDigits n = dec n := by
  by_cases h1 : n < 10
  · rw [Lib.decDigits_one h1, dec_a h1]
  · by_cases h2 : n < 100
    · rw [Lib.decDigits_two h1 h2, dec_b h1 h2, dec_a (show n / 10 < 10 by omega), dec_a (show n % 10 < 10 by omega)]; rfl
    · rw [Lib.decDigits, dif_neg h1, Lib.decDigits_two (by omega) (by omega), dec_c h2 h, dec_b (n := n / 10) (by omega) (by omega), dec_a (show n / 10 / 10 < 10 by omega), dec_a (show n / 10 % 10 < 10 by omega), dec_a (show n % 10 < 10 by omega)]
      rfl
theorem format_any (x : Int) (n : Nat) (hx : x = n) (h : n < 1000) (w : World) (hE : EnvAt w) :
    Calls Tryz.prog 96 #[.int .i64 x, .int .i64 10] w fun e w' => e = .returned (.string (bs (dec n))) ∧ Below w.heap.size w w' := by
  subst hx
  refine (Tryz.strconv_FormatInt_10 (n : Int) (by omega) (by omega) w hE.pow).mono ?_
  rintro e w' ⟨rfl, k, os, rfl⟩
  refine ⟨?_, Lib.below_grow _ _ (Nat.le_refl _) _ _⟩
  rw [Lib.itoa, if_neg (by omega), Int.toNat_natCast, dec_lib h]; rfl
theorem format_small (x : Int) (n : Nat) (hx : x = n) (h : n < 100) (w : World) :
    Calls Tryz.prog 96 #[.int .i64 x, .int .i64 10] w fun e w' => e = .returned (.string (bs (dec n))) ∧ w = w' := by
  subst hx
  refine (Tryz.strconv_FormatInt_10_small n h w).mono ?_
  rintro e w' ⟨rfl, rfl⟩
  exact ⟨by rw [dec_lib (by omega)]; rfl, rfl⟩
theorem two_any (x : Int) (n : Nat) (hx : x = n) (h : n < 100) (w : World) :
    Calls Tryz.prog 97 #[.int .i64 x] w fun e w' => e = .returned (.string (bs (two n))) ∧ w = w' := by
  subst hx
  have CF := Lib.hid (format_small (n : Int) n rfl h)
  by_cases h1 : n < 10
  · have i1 : (n : Int) < 10 := by omega
    have HE := Lib.hid (show (⟨#[48]⟩ : ByteArray) ++ bs (dec n) = bs (two n) by
      rw [two_dec h, show n / 10 = 0 by omega, show n % 10 = n by omega, ← bs_add]; rfl)
    have s1 := dec_size n
    obtain ⟨a, ha⟩ : ∃ a, bs (dec n) = a := ⟨_, rfl⟩
    rw [ha] at CF HE s1
    have hcat : ¬ 9223372036854775807 < 1 + a.size := by omega
    clear h h1 ha s1
    go_enter Tryz.func97, Tryz.ntmps97
    go_wp2_with fail
    refine (CF.out _).mono ?_
    rintro e w' ⟨rfl, rfl⟩
    go_wp2_with fail
    go_ret
    exact ⟨congrArg (fun s => Ending.returned (Value.string s)) HE.out, rfl⟩
  · have i1 : (10 : Int) ≤ (n : Int) := by omega
    have HE := Lib.hid (show bs (dec n) = bs (two n) by rw [two_dec h, dec_b h1 h])
    clear h h1
    go_enter Tryz.func97, Tryz.ntmps97
    go_wp2_with fail
    refine (CF.out _).mono ?_
    rintro e w' ⟨rfl, rfl⟩
    go_wp2_with fail
    go_ret
    exact ⟨congrArg (fun s => Ending.returned (Value.string s)) HE.out, rfl⟩
set_option maxHeartbeats 1000000 in
theorem print_pos (n : Nat) (h : n ≤ 604799) (w : World) (hE : EnvAt w) :
    Calls Tryz.prog 69 #[.int .i64 (n : Int)] w fun e w' => e = .returned (.tuple #[.string (bs ([] ++ printN n)), .int .i64 0]) ∧ Below w.heap.size w w' := by
  have i1 : (0 : Int) ≤ (n : Int) := by omega
  have i2 : (n : Int) ≤ 604799 := by omega
  have CA := Lib.hid (fun w hE => format_any ((n : Int) / 3600) (n / 3600) (by omega) (by omega) w hE)
  have CB := Lib.hid (two_any ((n : Int) / 60 % 60) (n / 60 % 60) (by omega) (by omega))
  have CC := Lib.hid (two_any ((n : Int) % 60) (n % 60) (by omega) (by omega))
  have s1 := dec_size (n / 3600)
  have s2 := two_size (n / 60 % 60)
  have s3 := two_size (n % 60)
  have HE := Lib.hid (show n % 60 = 0 → (⟨#[]⟩ : ByteArray) ++ bs (dec (n / 3600)) ++ ⟨#[58]⟩ ++ bs (two (n / 60 % 60)) = bs ([] ++ printN n) by
    intro hn; unfold printN; rw [if_pos hn, show (⟨#[58]⟩ : ByteArray) = bs [58] from rfl, show (⟨#[]⟩ : ByteArray) = bs [] from rfl, bs_add, bs_add, bs_add]; simp)
  have HF := Lib.hid (show n % 60 ≠ 0 → (⟨#[]⟩ : ByteArray) ++ bs (dec (n / 3600)) ++ ⟨#[58]⟩ ++ bs (two (n / 60 % 60)) ++ (⟨#[58]⟩ ++ bs (two (n % 60))) = bs ([] ++ printN n) by
    intro hn; unfold printN; rw [if_neg hn, show (⟨#[58]⟩ : ByteArray) = bs [58] from rfl, show (⟨#[]⟩ : ByteArray) = bs [] from rfl, bs_add, bs_add, bs_add, bs_add, bs_add]; simp)
  have ht : ((((n : Int) % 60) != 0) = false ∧ n % 60 = 0) ∨ ((((n : Int) % 60) != 0) = true ∧ n % 60 ≠ 0) := by
    by_cases hn : n % 60 = 0
    · left; refine ⟨?_, hn⟩; rw [bne_eq_false_iff_eq]; omega
    · right; refine ⟨?_, hn⟩; rw [bne_iff_ne]; omega
  obtain ⟨a, ha⟩ : ∃ a, bs (dec (n / 3600)) = a := ⟨_, rfl⟩
  obtain ⟨b, hb⟩ : ∃ b, bs (two (n / 60 % 60)) = b := ⟨_, rfl⟩
  obtain ⟨c, hc⟩ : ∃ c, bs (two (n % 60)) = c := ⟨_, rfl⟩
  rw [ha] at CA HE HF s1
  rw [hb] at CB HE HF s2
  rw [hc] at CC HF s3
  have HENV := Lib.hid hE
  clear ha hb hc hE h
  rcases ht with ⟨t0, hn⟩ | ⟨t0, hn⟩
  · have HX := Lib.hid (HE.out hn)
    clear hn HE HF
    go_enter Tryz.func69, Tryz.ntmps69
    go_wp2_with fail
    refine (CA.out _ HENV.out).mono ?_
    rintro e V ⟨rfl, hB⟩
    have HB := Lib.hid hB
    clear hB
    go_wp2_with fail
    refine (CB.out _).mono ?_
    rintro e w' ⟨rfl, rfl⟩
    go_wp2_with fail
    go_ret2
    exact ⟨congrArg (fun s => Ending.returned (.tuple #[Value.string s, .int .i64 0])) HX.out, HB.out⟩
  · have HX := Lib.hid (HF.out hn)
    clear hn HE HF
    go_enter Tryz.func69, Tryz.ntmps69
    go_wp2_with fail
    refine (CA.out _ HENV.out).mono ?_
    rintro e V ⟨rfl, hB⟩
    have HB := Lib.hid hB
    clear hB
    go_wp2_with fail
    refine (CB.out _).mono ?_
    rintro e w' ⟨rfl, rfl⟩
    go_wp2_with fail
    refine (CC.out _).mono ?_
    rintro e w' ⟨rfl, rfl⟩
    go_wp2_with fail
    go_ret2
    exact ⟨congrArg (fun s => Ending.returned (.tuple #[Value.string s, .int .i64 0])) HX.out, HB.out⟩
set_option maxHeartbeats 1000000 in
theorem print_neg (n : Nat) (h : n ≤ 604799) (h1 : 1 ≤ n) (w : World) (hE : EnvAt w) :
    Calls Tryz.prog 69 #[.int .i64 (-(n : Int))] w fun e w' => e = .returned (.tuple #[.string (bs ([45] ++ printN n)), .int .i64 0]) ∧ Below w.heap.size w w' := by
  have i1 : (1 : Int) ≤ (n : Int) := by omega
  have i2 : (n : Int) ≤ 604799 := by omega
  have CA := Lib.hid (fun w hE => format_any ((n : Int) / 3600) (n / 3600) (by omega) (by omega) w hE)
  have CB := Lib.hid (two_any ((n : Int) / 60 % 60) (n / 60 % 60) (by omega) (by omega))
  have CC := Lib.hid (two_any ((n : Int) % 60) (n % 60) (by omega) (by omega))
  have s1 := dec_size (n / 3600)
  have s2 := two_size (n / 60 % 60)
  have s3 := two_size (n % 60)
  have HE := Lib.hid (show n % 60 = 0 → (⟨#[45]⟩ : ByteArray) ++ bs (dec (n / 3600)) ++ ⟨#[58]⟩ ++ bs (two (n / 60 % 60)) = bs ([45] ++ printN n) by
    intro hn; unfold printN; rw [if_pos hn, show (⟨#[58]⟩ : ByteArray) = bs [58] from rfl, show (⟨#[45]⟩ : ByteArray) = bs [45] from rfl, bs_add, bs_add, bs_add]; simp)
  have HF := Lib.hid (show n % 60 ≠ 0 → (⟨#[45]⟩ : ByteArray) ++ bs (dec (n / 3600)) ++ ⟨#[58]⟩ ++ bs (two (n / 60 % 60)) ++ (⟨#[58]⟩ ++ bs (two (n % 60))) = bs ([45] ++ printN n) by
    intro hn; unfold printN; rw [if_neg hn, show (⟨#[58]⟩ : ByteArray) = bs [58] from rfl, show (⟨#[45]⟩ : ByteArray) = bs [45] from rfl, bs_add, bs_add, bs_add, bs_add, bs_add]; simp)
  have ht : ((((n : Int) % 60) != 0) = false ∧ n % 60 = 0) ∨ ((((n : Int) % 60) != 0) = true ∧ n % 60 ≠ 0) := by
    by_cases hn : n % 60 = 0
    · left; refine ⟨?_, hn⟩; rw [bne_eq_false_iff_eq]; omega
    · right; refine ⟨?_, hn⟩; rw [bne_iff_ne]; omega
  obtain ⟨a, ha⟩ : ∃ a, bs (dec (n / 3600)) = a := ⟨_, rfl⟩
  obtain ⟨b, hb⟩ : ∃ b, bs (two (n / 60 % 60)) = b := ⟨_, rfl⟩
  obtain ⟨c, hc⟩ : ∃ c, bs (two (n % 60)) = c := ⟨_, rfl⟩
  rw [ha] at CA HE HF s1
  rw [hb] at CB HE HF s2
  rw [hc] at CC HF s3
  have HENV := Lib.hid hE
  clear ha hb hc hE h h1
  rcases ht with ⟨t0, hn⟩ | ⟨t0, hn⟩
  · have HX := Lib.hid (HE.out hn)
    clear hn HE HF
    go_enter Tryz.func69, Tryz.ntmps69
    go_wp2_with fail
    refine (CA.out _ HENV.out).mono ?_
    rintro e V ⟨rfl, hB⟩
    have HB := Lib.hid hB
    clear hB
    go_wp2_with fail
    refine (CB.out _).mono ?_
    rintro e w' ⟨rfl, rfl⟩
    go_wp2_with fail
    go_ret2
    exact ⟨congrArg (fun s => Ending.returned (.tuple #[Value.string s, .int .i64 0])) HX.out, HB.out⟩
  · have HX := Lib.hid (HF.out hn)
    clear hn HE HF
    go_enter Tryz.func69, Tryz.ntmps69
    go_wp2_with fail
    refine (CA.out _ HENV.out).mono ?_
    rintro e V ⟨rfl, hB⟩
    have HB := Lib.hid hB
    clear hB
    go_wp2_with fail
    refine (CB.out _).mono ?_
    rintro e w' ⟨rfl, rfl⟩
    go_wp2_with fail
    refine (CC.out _).mono ?_
    rintro e w' ⟨rfl, rfl⟩
    go_wp2_with fail
    go_ret2
    exact ⟨congrArg (fun s => Ending.returned (.tuple #[Value.string s, .int .i64 0])) HX.out, HB.out⟩
theorem print_any (x : Int) (h0 : -604799 ≤ x) (h1 : x ≤ 604799) (w : World) (hE : EnvAt w) :
    Calls Tryz.prog 69 #[.int .i64 x] w fun e w' => e = .returned (.tuple #[.string (bs (printO x)), .int .i64 0]) ∧ Below w.heap.size w w' := by
  unfold printO
  by_cases h : x < 0
  · rw [if_pos h]
    have e : x = -((-x).toNat : Int) := by omega
    have := print_neg (-x).toNat (by omega) (by omega) w hE
    rwa [← e] at this
  · rw [if_neg h]
    obtain ⟨n, rfl⟩ := Int.eq_ofNat_of_zero_le (show 0 ≤ x by omega)
    exact print_pos n (by omega) w hE
end Go.Proofs.YtgllbagmmpicaaaGreatDoor.Off
