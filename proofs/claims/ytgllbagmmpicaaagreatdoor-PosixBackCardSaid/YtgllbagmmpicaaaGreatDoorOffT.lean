/- The functions analemmaref04.Decimal, Two and Print. -/
import Derived.Test.YtgllbagmmpicaaaGreatDoorOffS
import Derived.Test.YtgllbagmmpicaaaGreatDoorPrQ
namespace Go.Proofs.YtgllbagmmpicaaaGreatDoor.Off
open Go.RowKit
open Civ
open Px (len_list bs bs_list bs_size)

theorem dec_a {n : Nat} (h : n < 10) : dec n = [UInt8.ofNat (48 + n)] := if_pos h
theorem dec_b {n : Nat} (h1 : ¬ n < 10) (h2 : n < 100) : dec n = dec (n / 10) ++ dec (n % 10) := by
  rw [dec_a (show n / 10 < 10 by omega), dec_a (show n % 10 < 10 by omega)]
  unfold dec
  rw [if_neg h1, if_pos h2, List.singleton_append]
theorem dec_c {n : Nat} (h1 : ¬ n < 100) (h2 : n < 1000) : dec n = dec (n / 10) ++ dec (n % 10) := by
  rw [dec_b (n := n / 10) (by omega) (by omega), dec_a (show n / 10 / 10 < 10 by omega), dec_a (show n / 10 % 10 < 10 by omega), dec_a (show n % 10 < 10 by omega)]
  unfold dec
  rw [if_neg (by omega), if_neg h1]
  rfl
theorem bs_add (a b : List UInt8) : bs a ++ bs b = bs (a ++ b) := by
  apply ByteArray.ext
  rw [ByteArray.data_append]
  show a.toArray ++ b.toArray = (a ++ b).toArray
  simp
def digs10 : ByteArray := ⟨#[48, 49, 50, 51, 52, 53, 54, 55, 56, 57]⟩
theorem digs_at (n : Nat) (h : n < 10) : digs10.extract n (n + 1) = bs (dec n) := by
  have : ((List.range 10).all fun n => (digs10.extract n (n + 1)).data == (bs (dec n)).data) = true := by kernel_rfl
  have := List.all_eq_true.1 this n (List.mem_range.2 h)
  exact congrArg ByteArray.mk (eq_of_beq this)
theorem ref_dec1 (n : Nat) (h : n < 10) (w : World) :
    Calls Tryz.prog 100 #[.int .i64 (n : Int)] w fun e w' => e = .returned (.string (bs (dec n))) ∧ w = w' := by
  have i1 : (n : Int) < 10 := by omega
  have i0 : (0 : Int) ≤ (n : Int) := by omega
  have HD := Lib.hid (digs_at n h)
  clear h
  go_enter Tryz.func100, Tryz.ntmps100
  go_wp2_with fail
  go_ret
  exact ⟨congrArg (fun s => Ending.returned (Value.string s)) HD.out, rfl⟩
theorem ref_dec1' (x : Int) (n : Nat) (hx : x = n) (h : n < 10) (w : World) :
    Calls Tryz.prog 100 #[.int .i64 x] w fun e w' => e = .returned (.string (bs (dec n))) ∧ w = w' := by
  subst hx; exact ref_dec1 n h w
theorem dec_len (n : Nat) : (dec n).length ≤ 3 := by
  unfold dec
  split
  · simp
  · split <;> simp
theorem cat_small {a b : ByteArray} (ha : a.size ≤ 1000000000) (hb : b.size ≤ 1000000000) : ¬ 9223372036854775807 < a.size + b.size := by omega
theorem dec_size (n : Nat) : (bs (dec n)).size ≤ 3 := by rw [bs_size]; exact dec_len n
theorem ref_dec2 (n : Nat) (h1 : 10 ≤ n) (h : n < 100) (w : World) :
    Calls Tryz.prog 100 #[.int .i64 (n : Int)] w fun e w' => e = .returned (.string (bs (dec n))) ∧ w = w' := by
  have i1 : (10 : Int) ≤ (n : Int) := by omega
  have i2 : (n : Int) < 100 := by omega
  have CA := Lib.hid (ref_dec1' ((n : Int) / 10) (n / 10) (by omega) (by omega))
  have CB := Lib.hid (ref_dec1' ((n : Int) % 10) (n % 10) (by omega) (by omega))
  have HE := Lib.hid (show bs (dec (n / 10)) ++ bs (dec (n % 10)) = bs (dec n) by rw [bs_add, ← dec_b (n := n) (by omega) h])
  have s1 := dec_size (n / 10)
  have s2 := dec_size (n % 10)
  obtain ⟨a, ha⟩ : ∃ a, bs (dec (n / 10)) = a := ⟨_, rfl⟩
  obtain ⟨b, hb⟩ : ∃ b, bs (dec (n % 10)) = b := ⟨_, rfl⟩
  rw [ha] at CA HE s1
  rw [hb] at CB HE s2
  have hcat := cat_small (a := a) (b := b) (by omega) (by omega)
  clear h h1 ha hb s1 s2
  go_enter Tryz.func100, Tryz.ntmps100
  go_wp2_with fail
  refine (CA.out _).mono ?_
  rintro e w' ⟨rfl, rfl⟩
  go_wp2_with fail
  refine (CB.out _).mono ?_
  rintro e w' ⟨rfl, rfl⟩
  go_wp2_with fail
  go_ret
  exact ⟨congrArg (fun s => Ending.returned (Value.string s)) HE.out, rfl⟩
theorem ref_dec12 (x : Int) (n : Nat) (hx : x = n) (h : n < 100) (w : World) :
    Calls Tryz.prog 100 #[.int .i64 x] w fun e w' => e = .returned (.string (bs (dec n))) ∧ w = w' := by
  subst hx
  by_cases h1 : n < 10
  · exact ref_dec1 n h1 w
  · exact ref_dec2 n (by omega) h w
theorem ref_dec3 (n : Nat) (h1 : 100 ≤ n) (h : n < 1000) (w : World) :
    Calls Tryz.prog 100 #[.int .i64 (n : Int)] w fun e w' => e = .returned (.string (bs (dec n))) ∧ w = w' := by
  have i1 : (10 : Int) ≤ (n : Int) := by omega
  have i2 : (n : Int) ≤ 999 := by omega
  have CA := Lib.hid (ref_dec12 ((n : Int) / 10) (n / 10) (by omega) (by omega))
  have CB := Lib.hid (ref_dec1' ((n : Int) % 10) (n % 10) (by omega) (by omega))
  have HE := Lib.hid (show bs (dec (n / 10)) ++ bs (dec (n % 10)) = bs (dec n) by rw [bs_add, ← dec_c (n := n) (by omega) h])
  have s1 := dec_size (n / 10)
  have s2 := dec_size (n % 10)
  obtain ⟨a, ha⟩ : ∃ a, bs (dec (n / 10)) = a := ⟨_, rfl⟩
  obtain ⟨b, hb⟩ : ∃ b, bs (dec (n % 10)) = b := ⟨_, rfl⟩
  rw [ha] at CA HE s1
  rw [hb] at CB HE s2
  have hcat := cat_small (a := a) (b := b) (by omega) (by omega)
  clear h h1 ha hb s1 s2
  go_enter Tryz.func100, Tryz.ntmps100
  go_wp2_with fail
  refine (CA.out _).mono ?_
  rintro e w' ⟨rfl, rfl⟩
  go_wp2_with fail
  refine (CB.out _).mono ?_
  rintro e w' ⟨rfl, rfl⟩
  go_wp2_with fail
  go_ret
  exact ⟨congrArg (fun s => Ending.returned (Value.string s)) HE.out, rfl⟩
theorem ref_decimal (x : Int) (n : Nat) (hx : x = n) (h : n < 1000) (w : World) :
    Calls Tryz.prog 100 #[.int .i64 x] w fun e w' => e = .returned (.string (bs (dec n))) ∧ w = w' := by
  by_cases h1 : n < 100
  · exact ref_dec12 x n hx h1 w
  · subst hx; exact ref_dec3 n (by omega) h w
theorem two_dec {n : Nat} (h : n < 100) : two n = dec (n / 10) ++ dec (n % 10) := by
  rw [dec_a (show n / 10 < 10 by omega), dec_a (show n % 10 < 10 by omega)]; rfl
theorem ref_two (x : Int) (n : Nat) (hx : x = n) (h : n < 100) (w : World) :
    Calls Tryz.prog 101 #[.int .i64 x] w fun e w' => e = .returned (.string (bs (two n))) ∧ w = w' := by
  subst hx
  have i1 : (0 : Int) ≤ (n : Int) := by omega
  have i2 : (n : Int) < 100 := by omega
  have CA := Lib.hid (ref_dec1' ((n : Int) / 10) (n / 10) (by omega) (by omega))
  have CB := Lib.hid (ref_dec1' ((n : Int) % 10) (n % 10) (by omega) (by omega))
  have HE := Lib.hid (show bs (dec (n / 10)) ++ bs (dec (n % 10)) = bs (two n) by rw [bs_add, ← two_dec h])
  have s1 := dec_size (n / 10)
  have s2 := dec_size (n % 10)
  obtain ⟨a, ha⟩ : ∃ a, bs (dec (n / 10)) = a := ⟨_, rfl⟩
  obtain ⟨b, hb⟩ : ∃ b, bs (dec (n % 10)) = b := ⟨_, rfl⟩
  rw [ha] at CA HE s1
  rw [hb] at CB HE s2
  have hcat := cat_small (a := a) (b := b) (by omega) (by omega)
  clear h ha hb s1 s2
  go_enter Tryz.func101, Tryz.ntmps101
  go_wp2_with fail
  refine (CA.out _).mono ?_
  rintro e w' ⟨rfl, rfl⟩
  go_wp2_with fail
  refine (CB.out _).mono ?_
  rintro e w' ⟨rfl, rfl⟩
  go_wp2_with fail
  go_ret
  exact ⟨congrArg (fun s => Ending.returned (Value.string s)) HE.out, rfl⟩
theorem two_size (n : Nat) : (bs (two n)).size = 2 := by rw [bs_size]; rfl
set_option maxHeartbeats 1000000 in
theorem ref_print_pos (n : Nat) (h : n ≤ 604799) (w : World) :
    Calls Tryz.prog 72 #[.int .i64 (n : Int)] w fun e w' => e = .returned (.tuple #[.string (bs (printN n)), .int .i64 0]) ∧ w = w' := by
  have i1 : (0 : Int) ≤ (n : Int) := by omega
  have i2 : (n : Int) ≤ 604799 := by omega
  have CA := Lib.hid (ref_decimal ((n : Int) / 3600) (n / 3600) (by omega) (by omega))
  have CB := Lib.hid (ref_two ((n : Int) / 60 % 60) (n / 60 % 60) (by omega) (by omega))
  have CC := Lib.hid (ref_two ((n : Int) % 60) (n % 60) (by omega) (by omega))
  have s1 := dec_size (n / 3600)
  have s2 := two_size (n / 60 % 60)
  have s3 := two_size (n % 60)
  have HE := Lib.hid (show n % 60 = 0 → bs (dec (n / 3600)) ++ ⟨#[58]⟩ ++ bs (two (n / 60 % 60)) = bs (printN n) by
    intro hn; unfold printN; rw [if_pos hn, show (⟨#[58]⟩ : ByteArray) = bs [58] from rfl, bs_add, bs_add]; simp)
  have HF := Lib.hid (show n % 60 ≠ 0 → bs (dec (n / 3600)) ++ ⟨#[58]⟩ ++ bs (two (n / 60 % 60)) ++ ⟨#[58]⟩ ++ bs (two (n % 60)) = bs (printN n) by
    intro hn; unfold printN; rw [if_neg hn, show (⟨#[58]⟩ : ByteArray) = bs [58] from rfl, bs_add, bs_add, bs_add, bs_add]; simp)
  obtain ⟨a, ha⟩ : ∃ a, bs (dec (n / 3600)) = a := ⟨_, rfl⟩
  obtain ⟨b, hb⟩ : ∃ b, bs (two (n / 60 % 60)) = b := ⟨_, rfl⟩
  obtain ⟨c, hc⟩ : ∃ c, bs (two (n % 60)) = c := ⟨_, rfl⟩
  rw [ha] at CA HE HF s1
  rw [hb] at CB HE HF s2
  rw [hc] at CC HF s3
  have k1 : (⟨#[58]⟩ : ByteArray).size = 1 := rfl
  have hc1 : ¬ 9223372036854775807 < a.size + 1 := by omega
  have hc2 : ¬ 9223372036854775807 < a.size + 1 + b.size := by omega
  have hc3 : ¬ 9223372036854775807 < a.size + 1 + b.size + 1 := by omega
  have hc4 : ¬ 9223372036854775807 < a.size + 1 + b.size + 1 + c.size := by omega
  by_cases hn : n % 60 = 0
  · have HX := Lib.hid (HE.out hn)
    have t0 : (((n : Int) % 60) != 0) = false := by rw [bne_eq_false_iff_eq]; omega
    clear h ha hb hc s1 s2 s3 k1 hn HE HF
    go_enter Tryz.func72, Tryz.ntmps72
    go_wp2_with fail
    refine (CA.out _).mono ?_
    rintro e w' ⟨rfl, rfl⟩
    go_wp2_with fail
    refine (CB.out _).mono ?_
    rintro e w' ⟨rfl, rfl⟩
    go_wp2_with fail
    go_ret2
    exact ⟨congrArg (fun s => Ending.returned (.tuple #[Value.string s, .int .i64 0])) HX.out, rfl⟩
  · have HX := Lib.hid (HF.out hn)
    have t0 : (((n : Int) % 60) != 0) = true := by rw [bne_iff_ne]; omega
    clear h ha hb hc s1 s2 s3 k1 hn HE HF
    go_enter Tryz.func72, Tryz.ntmps72
    go_wp2_with fail
    refine (CA.out _).mono ?_
    rintro e w' ⟨rfl, rfl⟩
    go_wp2_with fail
    refine (CB.out _).mono ?_
    rintro e w' ⟨rfl, rfl⟩
    go_wp2_with fail
    refine (CC.out _).mono ?_
    rintro e w' ⟨rfl, rfl⟩
    go_wp2_with fail
    go_ret2
    exact ⟨congrArg (fun s => Ending.returned (.tuple #[Value.string s, .int .i64 0])) HX.out, rfl⟩
theorem ref_print_pos' (x : Int) (n : Nat) (hx : x = n) (h : n ≤ 604799) (w : World) :
    Calls Tryz.prog 72 #[.int .i64 x] w fun e w' => e = .returned (.tuple #[.string (bs (printN n)), .int .i64 0]) ∧ w = w' := by
  subst hx; exact ref_print_pos n h w
theorem printN_len (n : Nat) : (printN n).length ≤ 9 := by
  unfold printN
  have := dec_len (n / 3600)
  have h2 : ∀ n, (two n).length = 2 := fun _ => rfl
  split <;> simp [h2] <;> omega
theorem ref_print (x : Int) (h0 : -604799 ≤ x) (h1 : x ≤ 604799) (w : World) :
    Calls Tryz.prog 72 #[.int .i64 x] w fun e w' => e = .returned (.tuple #[.string (bs (printO x)), .int .i64 0]) ∧ w = w' := by
  unfold printO
  by_cases h : x < 0
  · rw [if_pos h]
    have CA := Lib.hid (ref_print_pos' (-x) (-x).toNat (by omega) (by omega))
    have s1 : (bs (printN (-x).toNat)).size ≤ 9 := by rw [bs_size]; exact printN_len _
    have HE := Lib.hid (show (⟨#[45]⟩ : ByteArray) ++ bs (printN (-x).toNat) = bs (45 :: printN (-x).toNat) by rw [show (⟨#[45]⟩ : ByteArray) = bs [45] from rfl, bs_add]; rfl)
    obtain ⟨a, ha⟩ : ∃ a, bs (printN (-x).toNat) = a := ⟨_, rfl⟩
    rw [ha] at CA HE s1
    have hcat : ¬ 9223372036854775807 < 1 + a.size := by omega
    clear ha s1
    go_enter Tryz.func72, Tryz.ntmps72
    go_wp2_with fail
    refine (CA.out _).mono ?_
    rintro e w' ⟨rfl, rfl⟩
    go_wp2_with fail
    go_ret2
    exact ⟨congrArg (fun s => Ending.returned (.tuple #[Value.string s, .int .i64 0])) HE.out, rfl⟩
  · rw [if_neg h]
    exact ref_print_pos' x x.toNat (by omega) (by omega) w
end Go.Proofs.YtgllbagmmpicaaaGreatDoor.Off
