/- analemmaref07.Zone is the same. -/
import Derived.Test.YtnffecoohkanhaaDoorYNzZ
namespace Go.Proofs.YtnffecoohkanhaaDoor
open Go.RowKit

set_option maxHeartbeats 400000 in
theorem letter_any (c : UInt8) (w : World) :
    Calls Tryd.prog 82 #[.int .u8 (c.toNat : Int)] w fun e w' => e = .returned (.bool (letB c.toNat)) ∧ w = w' := by
  have hc : (c.toNat : Int) ≤ 255 := by have := c.toNat_lt; omega
  go_enter Tryd.func82, Tryd.ntmps82
  go_wp2
  all_goals go_ret
  all_goals refine ⟨ret_bool ?_, rfl⟩
  all_goals (unfold letB; rw [Bool.eq_iff_iff]; simp; omega)
set_option maxHeartbeats 400000 in
theorem digit_any (c : UInt8) (w : World) :
    Calls Tryd.prog 83 #[.int .u8 (c.toNat : Int)] w fun e w' => e = .returned (.bool (digB c.toNat)) ∧ w = w' := by
  have hc : (c.toNat : Int) ≤ 255 := by have := c.toNat_lt; omega
  go_enter Tryd.func83, Tryd.ntmps83
  go_wp2
  all_goals go_ret
  all_goals refine ⟨ret_bool ?_, rfl⟩
  all_goals (unfold digB; rw [Bool.eq_iff_iff]; simp; omega)
theorem letter_is (b : Bool) (c : UInt8) (w : World) (h : letB c.toNat = b) :
    Calls Tryd.prog 82 #[.int .u8 (c.toNat : Int)] w fun e w' => e = .returned (.bool b) ∧ w = w' := by
  have := letter_any c w; rw [h] at this; exact this
theorem digit_is (b : Bool) (c : UInt8) (w : World) (h : digB c.toNat = b) :
    Calls Tryd.prog 83 #[.int .u8 (c.toNat : Int)] w fun e w' => e = .returned (.bool b) ∧ w = w' := by
  have := digit_any c w; rw [h] at this; exact this

theorem classify (n : Nat) : (letB n = true ∧ partP n = true) ∨ (letB n = false ∧ digB n = true ∧ partP n = true) ∨
    (letB n = false ∧ digB n = false ∧ ((n : Int) != 46) = false ∧ partP n = true) ∨
    (letB n = false ∧ digB n = false ∧ ((n : Int) != 46) = true ∧ ((n : Int) != 95) = false ∧ partP n = true) ∨
    (letB n = false ∧ digB n = false ∧ ((n : Int) != 46) = true ∧ ((n : Int) != 95) = true ∧ ((n : Int) != 43) = false ∧ partP n = true) ∨
    (letB n = false ∧ digB n = false ∧ ((n : Int) != 46) = true ∧ ((n : Int) != 95) = true ∧ ((n : Int) != 43) = true ∧ ((n : Int) != 45) = false ∧ partP n = true) ∨
    (letB n = false ∧ digB n = false ∧ ((n : Int) != 46) = true ∧ ((n : Int) != 95) = true ∧ ((n : Int) != 43) = true ∧ ((n : Int) != 45) = true ∧ partP n = false) := by
  unfold partP
  have e : ∀ k : Nat, ((n : Int) != (k : Int)) = !(decide (n = k)) := by
    intro k
    rw [Bool.eq_iff_iff]
    simp
    omega
  rw [show (46 : Int) = ((46 : Nat) : Int) from rfl, show (95 : Int) = ((95 : Nat) : Int) from rfl, show (43 : Int) = ((43 : Nat) : Int) from rfl, show (45 : Int) = ((45 : Nat) : Int) from rfl, e, e, e, e]
  cases letB n <;> cases digB n <;> simp
  omega

theorem part_short {x : ByteArray} (h : (x.size : Int) < 1) : partOk x.data.toList = false := by unfold partOk; rw [ofOk_low h]; rfl
theorem part_long {x : ByteArray} (h : (14 : Int) < x.size) : partOk x.data.toList = false := by unfold partOk; rw [ofOk_high h]; rfl
theorem part_dot {x : ByteArray} (h : 0 < x.size) (e : x[0].toNat = 46) : partOk x.data.toList = false := by
  unfold partOk; rw [head0 h, u8_of_toNat, e, show ((46 : Nat) == (46 : UInt8).toNat) = true from rfl]; simp
theorem part_dash {x : ByteArray} (h : 0 < x.size) (e : x[0].toNat = 45) : partOk x.data.toList = false := by
  unfold partOk; rw [head0 h, u8_of_toNat (k := 45), e, show ((45 : Nat) == (45 : UInt8).toNat) = true from rfl]; simp
theorem part_bad {x : ByteArray} (k : Nat) (h : k < x.size) (hb : partP x[k].toNat = false) : partOk x.data.toList = false := by
  unfold partOk; rw [ofOk_bad k h hb]; rfl
theorem part_good {x : ByteArray} (h : 0 < x.size) (h14 : x.size ≤ 14) (h46 : x[0].toNat ≠ 46) (h45 : x[0].toNat ≠ 45) (ha : x.data.toList.all (fun c => partP c.toNat) = true) : partOk x.data.toList = true := by
  unfold partOk
  rw [ofOk_good (by omega) (by omega) ha, head0 h, u8_of_toNat, u8_of_toNat, beq_eq_false_iff_ne.2 (show x[0].toNat ≠ (46 : UInt8).toNat from h46), beq_eq_false_iff_ne.2 (show x[0].toNat ≠ (45 : UInt8).toNat from h45)]
  rfl

set_option maxHeartbeats 4000000 in
theorem ref_part (s : ByteArray) (hs : s.size ≤ maxLen) (w : World) :
    Calls Tryd.prog 72 #[.string s] w fun e w' => e = .returned (.bool (partOk s.data.toList)) ∧ w = w' := by
  unfold maxLen at hs
  by_cases h1 : s.size < 1
  · go_enter Tryd.func72, Tryd.ntmps72
    go_wp2
    go_ret
    exact ⟨ret_bool (part_short (by omega)).symm, rfl⟩
  have hpos : 0 < s.size := by omega
  by_cases h2 : 14 < s.size
  · go_enter Tryd.func72, Tryd.ntmps72
    go_wp2
    go_ret
    exact ⟨ret_bool (part_long (by omega)).symm, rfl⟩
  have hle : s.size ≤ 14 := by omega
  by_cases h3 : s[0].toNat = 46
  · have H3 := Lib.hid h3
    have t3 : ((s[0].toNat : Int) == 46) = true := by rw [h3]; rfl
    clear h3
    go_enter Tryd.func72, Tryd.ntmps72
    go_wp2
    go_ret
    exact ⟨ret_bool (part_dot hpos H3.out).symm, rfl⟩
  have H3 := Lib.hid h3
  have t3 : ((s[0].toNat : Int) == 46) = false := by rw [beq_eq_false_iff_ne]; omega
  clear h3
  by_cases h4 : s[0].toNat = 45
  · have H4 := Lib.hid h4
    have t4 : ((s[0].toNat : Int) == 45) = true := by rw [h4]; rfl
    clear h4
    go_enter Tryd.func72, Tryd.ntmps72
    go_wp2
    go_ret
    exact ⟨ret_bool (part_dash hpos H4.out).symm, rfl⟩
  have H4 := Lib.hid h4
  have t4 : ((s[0].toNat : Int) == 45) = false := by rw [beq_eq_false_iff_ne]; omega
  clear h4
  go_enter Tryd.func72, Tryd.ntmps72
  go_wp2
  go_loop [3] (fun i => ∃ k : Nat, k ≤ s.size ∧ i = .int .i64 k ∧ (s.data.toList.take k).all (fun c => partP c.toNat) = true) (fun i => s.size - (intOf i).toNat)
  case atStart => exact ⟨0, by omega, rfl, rfl⟩
  case round =>
    obtain ⟨k, hk, rfl, hall⟩ := hrel
    have HA := Lib.hid hall
    clear hall t3 t4
    by_cases hlt : k < s.size
    · have goes : partP s[k].toNat = true → (s.data.toList.take (k + 1)).all (fun c => partP c.toNat) = true := fun h => by rw [take_snoc_all s k hlt, HA.out, Bool.true_and]; exact h
      have HG := Lib.hid goes
      clear goes
      rcases classify s[k].toNat with ⟨a1, hp⟩ | ⟨a1, a2, hp⟩ | ⟨a1, a2, a3, hp⟩ | ⟨a1, a2, a3, a4, hp⟩ | ⟨a1, a2, a3, a4, a5, hp⟩ | ⟨a1, a2, a3, a4, a5, a6, hp⟩ | ⟨a1, a2, a3, a4, a5, a6, hp⟩
      · have HP := Lib.hid hp
        have A1 := Lib.hid a1
        clear hp a1
        go_wp2_with (go_at_call 82; refine (letter_is true _ _ A1.out).mono ?_; rintro e w' ⟨rfl, rfl⟩)
        go_round
        case rel => exact ⟨k + 1, by omega, by go_num, HG.out HP.out⟩
        case measure => simp [intOf]; omega
      · have HP := Lib.hid hp
        have A1 := Lib.hid a1
        have A2 := Lib.hid a2
        clear hp a1 a2
        go_wp2_with (first | (go_at_call 82; refine (letter_is false _ _ A1.out).mono ?_; rintro e w' ⟨rfl, rfl⟩) | (go_at_call 83; refine (digit_is true _ _ A2.out).mono ?_; rintro e w' ⟨rfl, rfl⟩))
        go_round
        case rel => exact ⟨k + 1, by omega, by go_num, HG.out HP.out⟩
        case measure => simp [intOf]; omega
      · have HP := Lib.hid hp
        have A1 := Lib.hid a1
        have A2 := Lib.hid a2
        clear hp a1 a2
        go_wp2_with (first | (go_at_call 82; refine (letter_is false _ _ A1.out).mono ?_; rintro e w' ⟨rfl, rfl⟩) | (go_at_call 83; refine (digit_is false _ _ A2.out).mono ?_; rintro e w' ⟨rfl, rfl⟩))
        go_round
        case rel => exact ⟨k + 1, by omega, by go_num, HG.out HP.out⟩
        case measure => simp [intOf]; omega
      · have HP := Lib.hid hp
        have A1 := Lib.hid a1
        have A2 := Lib.hid a2
        clear hp a1 a2
        go_wp2_with (first | (go_at_call 82; refine (letter_is false _ _ A1.out).mono ?_; rintro e w' ⟨rfl, rfl⟩) | (go_at_call 83; refine (digit_is false _ _ A2.out).mono ?_; rintro e w' ⟨rfl, rfl⟩))
        go_round
        case rel => exact ⟨k + 1, by omega, by go_num, HG.out HP.out⟩
        case measure => simp [intOf]; omega
      · have HP := Lib.hid hp
        have A1 := Lib.hid a1
        have A2 := Lib.hid a2
        clear hp a1 a2
        go_wp2_with (first | (go_at_call 82; refine (letter_is false _ _ A1.out).mono ?_; rintro e w' ⟨rfl, rfl⟩) | (go_at_call 83; refine (digit_is false _ _ A2.out).mono ?_; rintro e w' ⟨rfl, rfl⟩))
        go_round
        case rel => exact ⟨k + 1, by omega, by go_num, HG.out HP.out⟩
        case measure => simp [intOf]; omega
      · have HP := Lib.hid hp
        have A1 := Lib.hid a1
        have A2 := Lib.hid a2
        clear hp a1 a2
        go_wp2_with (first | (go_at_call 82; refine (letter_is false _ _ A1.out).mono ?_; rintro e w' ⟨rfl, rfl⟩) | (go_at_call 83; refine (digit_is false _ _ A2.out).mono ?_; rintro e w' ⟨rfl, rfl⟩))
        go_round
        case rel => exact ⟨k + 1, by omega, by go_num, HG.out HP.out⟩
        case measure => simp [intOf]; omega
      · have HP := Lib.hid hp
        have A1 := Lib.hid a1
        have A2 := Lib.hid a2
        clear hp a1 a2
        go_wp2_with (first | (go_at_call 82; refine (letter_is false _ _ A1.out).mono ?_; rintro e w' ⟨rfl, rfl⟩) | (go_at_call 83; refine (digit_is false _ _ A2.out).mono ?_; rintro e w' ⟨rfl, rfl⟩))
        go_ret
        exact ⟨ret_bool (part_bad k hlt HP.out).symm, rfl⟩
    · have hall := HA.out
      rw [List.take_of_length_le (by rw [len_eq]; omega)] at hall
      have HB := Lib.hid hall
      clear hall
      go_wp2
      go_ret
      exact ⟨ret_bool (part_good hpos hle H3.out H4.out HB.out).symm, rfl⟩

theorem splitB_at (c : UInt8) (p r : List UInt8) (h : ∀ b ∈ p, b ≠ c) : splitB c (p ++ c :: r) = p :: splitB c r := by
  induction p with
  | nil => simp [splitB]
  | cons b p ih =>
    have hb : (b == c) = false := by simpa using h b (by simp)
    simp only [List.cons_append, splitB, hb, ih (fun x hx => h x (by simp [hx]))]
    rfl
theorem splitB_one (c : UInt8) (p : List UInt8) (h : ∀ b ∈ p, b ≠ c) : splitB c p = [p] := by
  induction p with
  | nil => rfl
  | cons b p ih =>
    have hb : (b == c) = false := by simpa using h b (by simp)
    simp only [splitB, hb, ih (fun x hx => h x (by simp [hx]))]
    rfl
theorem ext_list (s : ByteArray) (a b : Nat) : (s.extract a b).data.toList = (s.data.toList.drop a).take (b - a) := by
  rw [ByteArray.data_extract, Array.toList_extract, List.extract_eq_take_drop]
theorem ext_snoc (s : ByteArray) (f k : Nat) (hf : f ≤ k) (h : k < s.size) : (s.extract f (k + 1)).data.toList = (s.extract f k).data.toList ++ [s[k]] := by
  rw [ext_list, ext_list, show k + 1 - f = (k - f) + 1 by omega, List.take_succ_eq_append_getElem (by rw [List.length_drop, len_eq]; omega)]
  simp [show f + (k - f) = k by omega]
  rfl
theorem drop_at (s : ByteArray) (f k : Nat) (hf : f ≤ k) (h : k < s.size) : s.data.toList.drop f = (s.extract f k).data.toList ++ s[k] :: s.data.toList.drop (k + 1) := by
  have h1 := List.take_append_drop (k - f) (s.data.toList.drop f)
  rw [List.drop_drop, show f + (k - f) = k by omega] at h1
  rw [ext_list, ← List.getElem_cons_drop (i := k) (h := by rw [len_eq]; exact h)] at *
  exact h1.symm

set_option maxHeartbeats 2000000 in
theorem ref_zone (s : ByteArray) (hs : s.size ≤ maxLen) (w : World) :
    Calls Tryd.prog 53 #[.string s] w fun e w' => e = .returned (.bool (zoneOk s.data.toList)) ∧ w = w' := by
  have hs' := hs
  unfold maxLen at hs
  go_enter Tryd.func53, Tryd.ntmps53
  go_wp2
  go_loop [3, 4] (fun a i => ∃ f k : Nat, f ≤ k ∧ k ≤ s.size ∧ a = .int .i64 f ∧ i = .int .i64 k ∧ (∀ b ∈ (s.extract f k).data.toList, b ≠ 47) ∧
      ∃ done : List (List UInt8), done.all partOk = true ∧ splitB 47 s.data.toList = done ++ splitB 47 (s.data.toList.drop f)) (fun _ i => s.size - (intOf i).toNat)
  case atStart => exact ⟨0, 0, by omega, by omega, rfl, rfl, by rw [ext_list]; simp, [], rfl, rfl⟩
  case round =>
    obtain ⟨f, k, hfk, hk, rfl, rfl, hno, done, hd, hsp⟩ := hrel
    have HN := Lib.hid hno
    have HD := Lib.hid hd
    have HS := Lib.hid hsp
    clear hno hd hsp
    by_cases hlt : k < s.size
    · by_cases he : s[k].toNat = 47
      · have t : ((s[k].toNat : Int) == 47) = true := by rw [he]; rfl
        have hu : s[k] = 47 := UInt8.toNat_inj.1 he
        have hsplit : splitB 47 s.data.toList = done ++ (s.extract f k).data.toList :: splitB 47 (s.data.toList.drop (k + 1)) := by
          rw [HS.out, drop_at s f k hfk hlt, hu, splitB_at 47 _ _ HN.out]
        have HX := Lib.hid hsplit
        clear he hu hsplit
        cases hp : partOk (s.extract f k).data.toList
        · have c := ref_part (s.extract f k) (by simp; unfold maxLen; omega) w
          rw [hp] at c
          have HC := Lib.hid c
          have hbad : zoneOk s.data.toList = false := by
            unfold zoneOk
            rw [HX.out, List.all_append, List.all_cons, hp, Bool.false_and, Bool.and_false, Bool.and_false]
          have HB := Lib.hid hbad
          clear hp c hbad
          go_wp2_with (go_at_call 72; refine HC.out.mono ?_; rintro e w' ⟨rfl, rfl⟩)
          go_ret
          exact ⟨ret_bool HB.out.symm, rfl⟩
        · have c := ref_part (s.extract f k) (by simp; unfold maxLen; omega) w
          rw [hp] at c
          have HC := Lib.hid c
          have HP := Lib.hid hp
          clear hp c
          go_wp2_with (go_at_call 72; refine HC.out.mono ?_; rintro e w' ⟨rfl, rfl⟩)
          go_round
          case rel =>
            refine ⟨k + 1, k + 1, by omega, by omega, by go_num, by go_num, by rw [ext_list]; simp, done ++ [(s.extract f k).data.toList], ?_, ?_⟩
            · rw [List.all_append, HD.out, List.all_cons, HP.out]; rfl
            · rw [HX.out, List.append_assoc]; rfl
          case measure => simp [intOf]; omega
      · have t : ((s[k].toNat : Int) == 47) = false := by rw [beq_eq_false_iff_ne]; omega
        have HE := Lib.hid he
        clear he
        go_wp2
        go_round
        case rel =>
          refine ⟨f, k + 1, by omega, by omega, rfl, by go_num, ?_, done, HD.out, HS.out⟩
          rw [ext_snoc s f k hfk hlt]
          intro b hb
          rcases List.mem_append.1 hb with hb | hb
          · exact HN.out b hb
          · obtain rfl : b = s[k] := by simpa using hb
            intro e
            exact HE.out (by rw [e]; rfl)
        case measure => simp [intOf]; omega
    · have hks : k = s.size := by omega
      have hlast : splitB 47 (s.data.toList.drop f) = [(s.extract f s.size).data.toList] := by
        rw [ext_drop]
        refine splitB_one 47 _ ?_
        have := HN.out
        rw [hks, ext_drop] at this
        exact this
      have HL := Lib.hid hlast
      have HK := Lib.hid hks
      clear hlast hks
      have hval : zoneOk s.data.toList = (decide (s.size ≤ 60) && partOk (s.extract f s.size).data.toList) := by
        unfold zoneOk
        rw [HS.out, HL.out, List.all_append, HD.out, len_eq]
        simp
      have HV := Lib.hid hval
      clear hval
      cases hp : partOk (s.extract f s.size).data.toList
      · have c := ref_part (s.extract f s.size) (by simp; unfold maxLen; omega) w
        rw [hp] at c
        have HC := Lib.hid c
        have HP := Lib.hid hp
        clear hp c
        go_wp2_with (go_at_call 72; refine HC.out.mono ?_; rintro e w' ⟨rfl, rfl⟩)
        go_ret
        exact ⟨ret_bool (by rw [HV.out, HP.out, Bool.and_false]), rfl⟩
      · have c := ref_part (s.extract f s.size) (by simp; unfold maxLen; omega) w
        rw [hp] at c
        have HC := Lib.hid c
        have HP := Lib.hid hp
        clear hp c
        go_wp2_with (go_at_call 72; refine HC.out.mono ?_; rintro e w' ⟨rfl, rfl⟩)
        all_goals go_ret
        all_goals exact ⟨ret_bool (by rw [HV.out, HP.out, Bool.and_true]; first | rfl | (rw [Bool.eq_iff_iff]; simp; omega)), rfl⟩
end Go.Proofs.YtnffecoohkanhaaDoor
