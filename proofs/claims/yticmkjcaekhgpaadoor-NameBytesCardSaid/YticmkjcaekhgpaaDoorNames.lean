import Derived.Test.YticmkjcaekhgpaaDoorRefs
import Derived.Deep.RegionWith
namespace Go.Proofs.YticmkjcaekhgpaaDoor
open Go.RowKit

def setP (n : Nat) : Bool := letB n || digB n || decide (n = 95) || decide (n = 45)
def setOk (l : List UInt8) : Bool := ofOk 1 30 setP l && letB (l.headD 0).toNat
def letterOk (l : List UInt8) : Bool := ofOk 1 4 letB l
def abbrOk (l : List UInt8) : Bool := ofOk 3 6 letB l

theorem ref_letter (s : ByteArray) (hs : s.size ≤ maxLen) (w : World) :
    Calls Tryd.prog 18 #[.string s] w fun e w' => e = .returned (.bool (letterOk s.data.toList)) ∧ w = w' := by
  go_enter Tryd.func18, Tryd.ntmps18
  go_wp2_with (go_at_call 43; refine (ref_letters s hs 1 4 _).mono ?_; rintro e w' ⟨rfl, rfl⟩)
  go_ret
  exact ⟨rfl, rfl⟩
theorem ref_abbr (s : ByteArray) (hs : s.size ≤ maxLen) (w : World) :
    Calls Tryd.prog 20 #[.string s] w fun e w' => e = .returned (.bool (abbrOk s.data.toList)) ∧ w = w' := by
  go_enter Tryd.func20, Tryd.ntmps20
  go_wp2_with (go_at_call 43; refine (ref_letters s hs 3 6 _).mono ?_; rintro e w' ⟨rfl, rfl⟩)
  go_ret
  exact ⟨rfl, rfl⟩

theorem set_classify (n : Nat) : (letB n = true ∧ setP n = true) ∨ (letB n = false ∧ digB n = true ∧ setP n = true) ∨
    (letB n = false ∧ digB n = false ∧ ((n : Int) != 95) = false ∧ setP n = true) ∨
    (letB n = false ∧ digB n = false ∧ ((n : Int) != 95) = true ∧ ((n : Int) != 45) = false ∧ setP n = true) ∨
    (letB n = false ∧ digB n = false ∧ ((n : Int) != 95) = true ∧ ((n : Int) != 45) = true ∧ setP n = false) := by
  unfold setP
  have e : ∀ k : Nat, ((n : Int) != (k : Int)) = !(decide (n = k)) := by
    intro k
    rw [Bool.eq_iff_iff]
    simp
    omega
  rw [show (95 : Int) = ((95 : Nat) : Int) from rfl, show (45 : Int) = ((45 : Nat) : Int) from rfl, e, e]
  cases letB n <;> cases digB n <;> simp
  omega
theorem set_short {x : ByteArray} (h : (x.size : Int) < 1) : setOk x.data.toList = false := by unfold setOk; rw [ofOk_low h]; rfl
theorem set_long {x : ByteArray} (h : (30 : Int) < x.size) : setOk x.data.toList = false := by unfold setOk; rw [ofOk_high h]; rfl
theorem set_head {x : ByteArray} (h : 0 < x.size) (e : letB x[0].toNat = false) : setOk x.data.toList = false := by
  unfold setOk; rw [head0 h, e, Bool.and_false]
theorem set_bad {x : ByteArray} (k : Nat) (h : k < x.size) (hb : setP x[k].toNat = false) : setOk x.data.toList = false := by
  unfold setOk; rw [ofOk_bad k h hb]; rfl
theorem set_good {x : ByteArray} (h : 0 < x.size) (h30 : x.size ≤ 30) (e : letB x[0].toNat = true) (ha : x.data.toList.all (fun c => setP c.toNat) = true) : setOk x.data.toList = true := by
  unfold setOk; rw [ofOk_good (by omega) (by omega) ha, head0 h, e]; rfl

set_option maxHeartbeats 4000000 in
theorem ref_set (s : ByteArray) (hs : s.size ≤ maxLen) (w : World) :
    Calls Tryd.prog 16 #[.string s] w fun e w' => e = .returned (.bool (setOk s.data.toList)) ∧ w = w' := by
  unfold maxLen at hs
  by_cases h1 : s.size < 1
  · go_enter Tryd.func16, Tryd.ntmps16
    go_wp2_with fail
    go_ret
    exact ⟨ret_bool (set_short (by omega)).symm, rfl⟩
  have hpos : 0 < s.size := by omega
  by_cases h2 : 30 < s.size
  · go_enter Tryd.func16, Tryd.ntmps16
    go_wp2_with fail
    go_ret
    exact ⟨ret_bool (set_long (by omega)).symm, rfl⟩
  have hle : s.size ≤ 30 := by omega
  cases h3 : letB s[0].toNat
  · have H3 := Lib.hid h3
    clear h3
    go_enter Tryd.func16, Tryd.ntmps16
    go_wp2_with (go_at_call 41; refine (letter_is false _ _ H3.out).mono ?_; rintro e w' ⟨rfl, rfl⟩)
    go_ret
    exact ⟨ret_bool (set_head hpos H3.out).symm, rfl⟩
  have H3 := Lib.hid h3
  clear h3
  go_enter Tryd.func16, Tryd.ntmps16
  go_wp2_with (go_at_call 41; refine (letter_is true _ _ H3.out).mono ?_; rintro e w' ⟨rfl, rfl⟩)
  go_loop [3] (fun i => ∃ k : Nat, k ≤ s.size ∧ i = .int .i64 k ∧ (s.data.toList.take k).all (fun c => setP c.toNat) = true) (fun i => s.size - (intOf i).toNat)
  case atStart => exact ⟨0, by omega, rfl, rfl⟩
  case round =>
    obtain ⟨k, hk, rfl, hall⟩ := hrel
    have HA := Lib.hid hall
    clear hall
    by_cases hlt : k < s.size
    · have goes : setP s[k].toNat = true → (s.data.toList.take (k + 1)).all (fun c => setP c.toNat) = true := fun h => by rw [take_snoc_all s k hlt, HA.out, Bool.true_and]; exact h
      have HG := Lib.hid goes
      clear goes
      rcases set_classify s[k].toNat with ⟨a1, hp⟩ | ⟨a1, a2, hp⟩ | ⟨a1, a2, a3, hp⟩ | ⟨a1, a2, a3, a4, hp⟩ | ⟨a1, a2, a3, a4, hp⟩
      · have HP := Lib.hid hp
        have A1 := Lib.hid a1
        clear hp a1
        go_wp2_with (go_at_call 41; refine (letter_is true _ _ A1.out).mono ?_; rintro e w' ⟨rfl, rfl⟩)
        go_round
        case rel => exact ⟨k + 1, by omega, by go_num, HG.out HP.out⟩
        case measure => simp [intOf]; omega
      · have HP := Lib.hid hp
        have A1 := Lib.hid a1
        have A2 := Lib.hid a2
        clear hp a1 a2
        go_wp2_with (first | (go_at_call 41; refine (letter_is false _ _ A1.out).mono ?_; rintro e w' ⟨rfl, rfl⟩) | (go_at_call 42; refine (digit_is true _ _ A2.out).mono ?_; rintro e w' ⟨rfl, rfl⟩))
        go_round
        case rel => exact ⟨k + 1, by omega, by go_num, HG.out HP.out⟩
        case measure => simp [intOf]; omega
      · have HP := Lib.hid hp
        have A1 := Lib.hid a1
        have A2 := Lib.hid a2
        clear hp a1 a2
        go_wp2_with (first | (go_at_call 41; refine (letter_is false _ _ A1.out).mono ?_; rintro e w' ⟨rfl, rfl⟩) | (go_at_call 42; refine (digit_is false _ _ A2.out).mono ?_; rintro e w' ⟨rfl, rfl⟩))
        go_round
        case rel => exact ⟨k + 1, by omega, by go_num, HG.out HP.out⟩
        case measure => simp [intOf]; omega
      · have HP := Lib.hid hp
        have A1 := Lib.hid a1
        have A2 := Lib.hid a2
        clear hp a1 a2
        go_wp2_with (first | (go_at_call 41; refine (letter_is false _ _ A1.out).mono ?_; rintro e w' ⟨rfl, rfl⟩) | (go_at_call 42; refine (digit_is false _ _ A2.out).mono ?_; rintro e w' ⟨rfl, rfl⟩))
        go_round
        case rel => exact ⟨k + 1, by omega, by go_num, HG.out HP.out⟩
        case measure => simp [intOf]; omega
      · have HP := Lib.hid hp
        have A1 := Lib.hid a1
        have A2 := Lib.hid a2
        clear hp a1 a2
        go_wp2_with (first | (go_at_call 41; refine (letter_is false _ _ A1.out).mono ?_; rintro e w' ⟨rfl, rfl⟩) | (go_at_call 42; refine (digit_is false _ _ A2.out).mono ?_; rintro e w' ⟨rfl, rfl⟩))
        go_ret
        exact ⟨ret_bool (set_bad k hlt HP.out).symm, rfl⟩
    · have hall := HA.out
      rw [List.take_of_length_le (by rw [len_eq]; omega)] at hall
      have HB := Lib.hid hall
      clear hall
      go_wp2
      go_ret
      exact ⟨ret_bool (set_good hpos hle H3.out HB.out).symm, rfl⟩

/-! the program's own -/
theorem kind1 (n : Nat) : (bits BinOp.and IntKind.u8 (kindOf n) 1 == 0) = !(letB n) := by
  unfold kindOf
  have b1 : (bits BinOp.and IntKind.u8 1 1 == 0) = false := by kernel_rfl
  have b2 : (bits BinOp.and IntKind.u8 2 1 == 0) = true := by kernel_rfl
  have b4 : (bits BinOp.and IntKind.u8 4 1 == 0) = true := by kernel_rfl
  have b8 : (bits BinOp.and IntKind.u8 8 1 == 0) = true := by kernel_rfl
  have b16 : (bits BinOp.and IntKind.u8 16 1 == 0) = true := by kernel_rfl
  have b0 : (bits BinOp.and IntKind.u8 0 1 == 0) = true := by kernel_rfl
  cases letB n
  · simp only [Bool.false_eq_true, if_false]
    repeat' split
    all_goals assumption
  · exact b1
theorem kind15 (n : Nat) : (bits BinOp.and IntKind.u8 (kindOf n) 15 == 0) = !(setP n) := by
  unfold kindOf setP
  have b1 : (bits BinOp.and IntKind.u8 1 15 == 0) = false := by kernel_rfl
  have b2 : (bits BinOp.and IntKind.u8 2 15 == 0) = false := by kernel_rfl
  have b4 : (bits BinOp.and IntKind.u8 4 15 == 0) = false := by kernel_rfl
  have b8 : (bits BinOp.and IntKind.u8 8 15 == 0) = false := by kernel_rfl
  have b16 : (bits BinOp.and IntKind.u8 16 15 == 0) = true := by kernel_rfl
  have b0 : (bits BinOp.and IntKind.u8 0 15 == 0) = true := by kernel_rfl
  cases letB n
  · cases digB n
    · by_cases h3 : n = 95
      · rw [h3]; exact b4
      · by_cases h4 : n = 45
        · rw [h4]; exact b8
        · simp only [h3, h4, decide_false, Bool.false_or, if_false, Bool.false_eq_true, Bool.not_false]
          repeat' split
          all_goals assumption
    · exact b2
  · exact b1

set_option maxHeartbeats 1000000 in
theorem letter17 (s : ByteArray) (hs : s.size ≤ maxLen) (w : World) :
    Calls Tryd.prog 17 #[.string s] w fun e w' => e = .returned (.bool (letterOk s.data.toList)) ∧ Below w.heap.size w w' := by
  go_enter Tryd.func17, Tryd.ntmps17
  go_wp2_with (go_at_call 38; refine (of_any 1 4 1 _).mono ?_; rintro e w1 ⟨v, rfl, ⟨a1, a2, a3, a4, rfl, c1, c2, c3, c4⟩, hb⟩; have C3 := Lib.hid c3; clear c3)
  refine (closure_is _ 1 4 1 letB kind1 s hs a1 a2 a3 a4 w1 c1 c2 C3.out c4 rfl).mono ?_
  rintro e w' ⟨rfl, nn, rfl⟩
  go_wp2
  go_ret
  exact ⟨rfl, below_drewN hb nn⟩
set_option maxHeartbeats 1000000 in
theorem abbr19 (s : ByteArray) (hs : s.size ≤ maxLen) (w : World) :
    Calls Tryd.prog 19 #[.string s] w fun e w' => e = .returned (.bool (abbrOk s.data.toList)) ∧ Below w.heap.size w w' := by
  go_enter Tryd.func19, Tryd.ntmps19
  go_wp2_with (go_at_call 38; refine (of_any 3 6 1 _).mono ?_; rintro e w1 ⟨v, rfl, ⟨a1, a2, a3, a4, rfl, c1, c2, c3, c4⟩, hb⟩; have C3 := Lib.hid c3; clear c3)
  refine (closure_is _ 3 6 1 letB kind1 s hs a1 a2 a3 a4 w1 c1 c2 C3.out c4 rfl).mono ?_
  rintro e w' ⟨rfl, nn, rfl⟩
  go_wp2
  go_ret
  exact ⟨rfl, below_drewN hb nn⟩
end Go.Proofs.YticmkjcaekhgpaaDoor
