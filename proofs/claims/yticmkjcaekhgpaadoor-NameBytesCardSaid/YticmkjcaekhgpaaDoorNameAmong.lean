/- The law NameAmong returns true for every slice of bytes and every byte, and its tied card holds; no condition beyond the row itself. -/
import Derived.Test.YticmkjcaekhgpaaDoorOpen
namespace Go.Proofs.YticmkjcaekhgpaaDoor
open Go.ChangeShapes Go.WideShapes Go.ChangeAt Go.RowKit
open Go.ChangeMaps (open_string)

/-! letters alone -/
theorem alpha_let (j : Nat) (h : j < 52) : letB (alpha52.data.toList.getD j 65).toNat = true := by
  have : ((List.range 52).all fun j => letB (alpha52.data.toList.getD j 65).toNat) = true := by kernel_rfl
  exact List.all_eq_true.1 this j (List.mem_range.2 h)
theorem lettersOf_let (L : List UInt8) (a b : Nat) : ∀ c ∈ lettersOf L a b, letB c.toNat = true := by
  intro c hc
  obtain ⟨i, _, rfl⟩ := List.mem_map.1 hc
  exact alpha_let _ (Nat.mod_lt _ (by omega))
theorem lettersOf_length (L : List UInt8) (a b : Nat) : (lettersOf L a b).length = lettN L a b := by simp [lettersOf]
theorem let_range {n : Nat} (h : letB n = true) : n ≠ 46 ∧ n ≠ 45 ∧ n ≠ 47 ∧ 65 ≤ n ∧ n ≤ 122 := by
  unfold letB at h
  simp at h
  omega
theorem all_imp {l : List UInt8} {p q : Nat → Bool} (h : ∀ c ∈ l, p c.toNat = true) (hpq : ∀ n, p n = true → q n = true) : (l.all fun c => q c.toNat) = true := by
  rw [List.all_eq_true]
  intro c hc
  exact hpq _ (h c hc)
theorem ofOk_letters {l : List UInt8} (h : ∀ c ∈ l, letB c.toNat = true) (a b : Int) (q : Nat → Bool) (hq : ∀ n, letB n = true → q n = true) : ofOk a b q l = (decide (a ≤ l.length) && decide ((l.length : Int) ≤ b)) := by
  unfold ofOk
  rw [all_imp h hq, Bool.and_true]
theorem head_let {l : List UInt8} (h : ∀ c ∈ l, letB c.toNat = true) (hne : 1 ≤ l.length) : letB (l.headD 0).toNat = true := by
  cases l with
  | nil => simp at hne
  | cons c r => exact h c (by simp)
theorem set_letters {l : List UInt8} (h : ∀ c ∈ l, letB c.toNat = true) : setOk l = (decide (1 ≤ l.length) && decide (l.length ≤ 30)) := by
  unfold setOk
  rw [ofOk_letters h 1 30 setP (fun n hn => by unfold setP; rw [hn]; rfl)]
  by_cases h1 : 1 ≤ l.length
  · rw [head_let h h1, Bool.and_true]
    congr 1
    · rw [Bool.eq_iff_iff]; simp; omega
    · rw [Bool.eq_iff_iff]; simp; omega
  · have e : decide ((1 : Int) ≤ l.length) = false := by simp; omega
    rw [e, decide_eq_false h1]; rfl
theorem letter_letters {l : List UInt8} (h : ∀ c ∈ l, letB c.toNat = true) : letterOk l = (decide (1 ≤ l.length) && decide (l.length ≤ 4)) := by
  unfold letterOk
  rw [ofOk_letters h 1 4 letB (fun _ hn => hn)]
  congr 1 <;> (rw [Bool.eq_iff_iff]; simp; omega)
theorem abbr_letters {l : List UInt8} (h : ∀ c ∈ l, letB c.toNat = true) : abbrOk l = (decide (3 ≤ l.length) && decide (l.length ≤ 6)) := by
  unfold abbrOk
  rw [ofOk_letters h 3 6 letB (fun _ hn => hn)]
  congr 1 <;> (rw [Bool.eq_iff_iff]; simp; omega)
theorem part_letters {l : List UInt8} (h : ∀ c ∈ l, letB c.toNat = true) : partOk l = (decide (1 ≤ l.length) && decide (l.length ≤ 14)) := by
  unfold partOk
  rw [ofOk_letters h 1 14 partP (fun n hn => by unfold partP; rw [hn]; rfl)]
  by_cases h1 : 1 ≤ l.length
  · have hh := let_range (head_let h h1)
    have e1 : (l.headD 0 == 46) = false := by rw [u8_of_toNat, beq_eq_false_iff_ne]; exact hh.1
    have e2 : (l.headD 0 == 45) = false := by rw [u8_of_toNat, beq_eq_false_iff_ne]; exact hh.2.1
    rw [e1, e2]
    simp only [Bool.not_false, Bool.and_true]
    congr 1
    · rw [Bool.eq_iff_iff]; simp; omega
    · rw [Bool.eq_iff_iff]; simp; omega
  · have e : decide ((1 : Int) ≤ l.length) = false := by simp; omega
    rw [e, decide_eq_false h1]; rfl
theorem zone_letters {l : List UInt8} (h : ∀ c ∈ l, letB c.toNat = true) : zoneOk l = (decide (1 ≤ l.length) && decide (l.length ≤ 14)) := by
  unfold zoneOk
  rw [splitB_one 47 l (fun b hb e => (let_range (h b hb)).2.2.1 (by rw [e]; rfl))]
  simp only [List.all_cons, List.all_nil, Bool.and_true, part_letters h]
  rw [Bool.eq_iff_iff]
  simp
  omega

set_option maxHeartbeats 2000000 in
theorem among_case0 (L : List UInt8) (a : Option Addr) (cap : Nat) (hL : L.length ≤ maxLen) (n : Int) (k : Nat) (W : World) (hB : BytesAt W a L) (hk : n % 40 = k) (hn0 : 0 ≤ n) (h255 : n ≤ 255) (hlo : 0 ≤ k) (hhi : k ≤ 0) :
    Calls Tryd.prog 5 #[.slice a L.length cap, .int .u8 n] W fun e w' => e = .returned (.bool true) ∧ Below W.heap.size W w' := by
  have hd14 : decide ((k : Int) ≤ 14) = true := by simp; omega
  go_enter Tryd.func5, Tryd.ntmps5
  go_wp2_with fail
  have hlet := lettersOf_let L k k
  have hlen : (lettersOf L k k).length = k := by rw [lettersOf_length]; unfold lettN; omega
  refine (letters22 L a cap k k (by omega) (by omega) hL W hB).mono ?_
  rintro e w' ⟨o, rfl, ho, rfl⟩
  have hsz : o.size = k := by rw [← len_eq, ho]; exact hlen
  have c17 := letter_letters hlet
  have c19 := abbr_letters hlet
  have c15 := set_letters hlet
  have c13 := zone_letters hlet
  rw [← ho] at c17 c19 c15 c13
  have hmx : o.size ≤ maxLen := by unfold maxLen; omega
  have hole : o.data.toList.length = k := by rw [len_eq]; exact hsz
  rw [hole] at c17 c19 c15 c13
  have e17 : letterOk o.data.toList = false := by rw [c17]; simp; omega
  have e19 : abbrOk o.data.toList = false := by rw [c19]; simp; omega
  have e15 : setOk o.data.toList = false := by rw [c15]; simp; omega
  have e13 : zoneOk o.data.toList = false := by rw [c13]; simp; omega
  have E17 := Lib.hid e17
  have E19 := Lib.hid e19
  have E15 := Lib.hid e15
  have E13 := Lib.hid e13
  clear e17 e19 e15 e13 c17 c19 c15 c13 ho hole hlen hlet hB hk
  go_wp2_with fail
  refine (letter17 o hmx _).mono ?_
  rw [E17.out]
  rintro e w0 ⟨rfl, h0⟩
  go_wp2_with fail
  refine (abbr19 o hmx _).mono ?_
  rw [E19.out]
  rintro e w1 ⟨rfl, h1⟩
  go_wp2_with fail
  refine (set15 o hmx _).mono ?_
  rw [E15.out]
  rintro e w2 ⟨rfl, h2⟩
  go_wp2_with fail
  refine (zone_any o hmx _).mono ?_
  rw [E13.out]
  rintro e w3 ⟨rfl, h3⟩
  go_wp2_with fail
  refine (letter17 o hmx _).mono ?_
  rw [E17.out]
  rintro e w4 ⟨rfl, h4⟩
  go_wp2_with fail
  refine (set15 o hmx _).mono ?_
  rw [E15.out]
  rintro e w5 ⟨rfl, h5⟩
  go_wp2_with fail
  refine (works_any _).mono ?_
  rintro e w6 ⟨rfl, h6⟩
  go_wp2
  go_ret
  have e0 := h0.size
  have e1 := h1.size
  have e2 := h2.size
  have e3 := h3.size
  have e4 := h4.size
  have e5 := h5.size
  exact ⟨rfl, h0.trans ((h1.mono (by omega)).trans ((h2.mono (by omega)).trans ((h3.mono (by omega)).trans ((h4.mono (by omega)).trans ((h5.mono (by omega)).trans (h6.mono (by omega)))))))⟩

set_option maxHeartbeats 2000000 in
theorem among_case1 (L : List UInt8) (a : Option Addr) (cap : Nat) (hL : L.length ≤ maxLen) (n : Int) (k : Nat) (W : World) (hB : BytesAt W a L) (hk : n % 40 = k) (hn0 : 0 ≤ n) (h255 : n ≤ 255) (hlo : 1 ≤ k) (hhi : k ≤ 2) :
    Calls Tryd.prog 5 #[.slice a L.length cap, .int .u8 n] W fun e w' => e = .returned (.bool true) ∧ Below W.heap.size W w' := by
  have hd14 : decide ((k : Int) ≤ 14) = true := by simp; omega
  go_enter Tryd.func5, Tryd.ntmps5
  go_wp2_with fail
  have hlet := lettersOf_let L k k
  have hlen : (lettersOf L k k).length = k := by rw [lettersOf_length]; unfold lettN; omega
  refine (letters22 L a cap k k (by omega) (by omega) hL W hB).mono ?_
  rintro e w' ⟨o, rfl, ho, rfl⟩
  have hsz : o.size = k := by rw [← len_eq, ho]; exact hlen
  have c17 := letter_letters hlet
  have c19 := abbr_letters hlet
  have c15 := set_letters hlet
  have c13 := zone_letters hlet
  rw [← ho] at c17 c19 c15 c13
  have hmx : o.size ≤ maxLen := by unfold maxLen; omega
  have hole : o.data.toList.length = k := by rw [len_eq]; exact hsz
  rw [hole] at c17 c19 c15 c13
  have e17 : letterOk o.data.toList = true := by rw [c17]; simp; omega
  have e19 : abbrOk o.data.toList = false := by rw [c19]; simp; omega
  have e15 : setOk o.data.toList = true := by rw [c15]; simp; omega
  have e13 : zoneOk o.data.toList = true := by rw [c13]; simp; omega
  have E17 := Lib.hid e17
  have E19 := Lib.hid e19
  have E15 := Lib.hid e15
  have E13 := Lib.hid e13
  clear e17 e19 e15 e13 c17 c19 c15 c13 ho hole hlen hlet hB hk
  go_wp2_with fail
  refine (letter17 o hmx _).mono ?_
  rw [E17.out]
  rintro e w0 ⟨rfl, h0⟩
  go_wp2_with fail
  refine (abbr19 o hmx _).mono ?_
  rw [E19.out]
  rintro e w1 ⟨rfl, h1⟩
  go_wp2_with fail
  refine (set15 o hmx _).mono ?_
  rw [E15.out]
  rintro e w2 ⟨rfl, h2⟩
  go_wp2_with fail
  refine (zone_any o hmx _).mono ?_
  rw [E13.out]
  rintro e w3 ⟨rfl, h3⟩
  go_wp2_with fail
  refine (letter17 o hmx _).mono ?_
  rw [E17.out]
  rintro e w4 ⟨rfl, h4⟩
  go_wp2_with fail
  refine (set15 o hmx _).mono ?_
  rw [E15.out]
  rintro e w5 ⟨rfl, h5⟩
  go_wp2_with fail
  refine (set15 o hmx _).mono ?_
  rw [E15.out]
  rintro e w6 ⟨rfl, h6⟩
  go_wp2_with fail
  refine (zone_any o hmx _).mono ?_
  rw [E13.out]
  rintro e w7 ⟨rfl, h7⟩
  go_wp2_with fail
  refine (works_any _).mono ?_
  rintro e w8 ⟨rfl, h8⟩
  go_wp2
  go_ret
  have e0 := h0.size
  have e1 := h1.size
  have e2 := h2.size
  have e3 := h3.size
  have e4 := h4.size
  have e5 := h5.size
  have e6 := h6.size
  have e7 := h7.size
  exact ⟨rfl, h0.trans ((h1.mono (by omega)).trans ((h2.mono (by omega)).trans ((h3.mono (by omega)).trans ((h4.mono (by omega)).trans ((h5.mono (by omega)).trans ((h6.mono (by omega)).trans ((h7.mono (by omega)).trans (h8.mono (by omega)))))))))⟩

set_option maxHeartbeats 2000000 in
theorem among_case2 (L : List UInt8) (a : Option Addr) (cap : Nat) (hL : L.length ≤ maxLen) (n : Int) (k : Nat) (W : World) (hB : BytesAt W a L) (hk : n % 40 = k) (hn0 : 0 ≤ n) (h255 : n ≤ 255) (hlo : 3 ≤ k) (hhi : k ≤ 4) :
    Calls Tryd.prog 5 #[.slice a L.length cap, .int .u8 n] W fun e w' => e = .returned (.bool true) ∧ Below W.heap.size W w' := by
  have hd14 : decide ((k : Int) ≤ 14) = true := by simp; omega
  go_enter Tryd.func5, Tryd.ntmps5
  go_wp2_with fail
  have hlet := lettersOf_let L k k
  have hlen : (lettersOf L k k).length = k := by rw [lettersOf_length]; unfold lettN; omega
  refine (letters22 L a cap k k (by omega) (by omega) hL W hB).mono ?_
  rintro e w' ⟨o, rfl, ho, rfl⟩
  have hsz : o.size = k := by rw [← len_eq, ho]; exact hlen
  have c17 := letter_letters hlet
  have c19 := abbr_letters hlet
  have c15 := set_letters hlet
  have c13 := zone_letters hlet
  rw [← ho] at c17 c19 c15 c13
  have hmx : o.size ≤ maxLen := by unfold maxLen; omega
  have hole : o.data.toList.length = k := by rw [len_eq]; exact hsz
  rw [hole] at c17 c19 c15 c13
  have e17 : letterOk o.data.toList = true := by rw [c17]; simp; omega
  have e19 : abbrOk o.data.toList = true := by rw [c19]; simp; omega
  have e15 : setOk o.data.toList = true := by rw [c15]; simp; omega
  have e13 : zoneOk o.data.toList = true := by rw [c13]; simp; omega
  have E17 := Lib.hid e17
  have E19 := Lib.hid e19
  have E15 := Lib.hid e15
  have E13 := Lib.hid e13
  clear e17 e19 e15 e13 c17 c19 c15 c13 ho hole hlen hlet hB hk
  go_wp2_with fail
  refine (letter17 o hmx _).mono ?_
  rw [E17.out]
  rintro e w0 ⟨rfl, h0⟩
  go_wp2_with fail
  refine (abbr19 o hmx _).mono ?_
  rw [E19.out]
  rintro e w1 ⟨rfl, h1⟩
  go_wp2_with fail
  refine (set15 o hmx _).mono ?_
  rw [E15.out]
  rintro e w2 ⟨rfl, h2⟩
  go_wp2_with fail
  refine (zone_any o hmx _).mono ?_
  rw [E13.out]
  rintro e w3 ⟨rfl, h3⟩
  go_wp2_with fail
  refine (letter17 o hmx _).mono ?_
  rw [E17.out]
  rintro e w4 ⟨rfl, h4⟩
  go_wp2_with fail
  refine (set15 o hmx _).mono ?_
  rw [E15.out]
  rintro e w5 ⟨rfl, h5⟩
  go_wp2_with fail
  refine (set15 o hmx _).mono ?_
  rw [E15.out]
  rintro e w6 ⟨rfl, h6⟩
  go_wp2_with fail
  refine (zone_any o hmx _).mono ?_
  rw [E13.out]
  rintro e w7 ⟨rfl, h7⟩
  go_wp2_with fail
  refine (works_any _).mono ?_
  rintro e w8 ⟨rfl, h8⟩
  go_wp2
  go_ret
  have e0 := h0.size
  have e1 := h1.size
  have e2 := h2.size
  have e3 := h3.size
  have e4 := h4.size
  have e5 := h5.size
  have e6 := h6.size
  have e7 := h7.size
  exact ⟨rfl, h0.trans ((h1.mono (by omega)).trans ((h2.mono (by omega)).trans ((h3.mono (by omega)).trans ((h4.mono (by omega)).trans ((h5.mono (by omega)).trans ((h6.mono (by omega)).trans ((h7.mono (by omega)).trans (h8.mono (by omega)))))))))⟩

set_option maxHeartbeats 2000000 in
theorem among_case3 (L : List UInt8) (a : Option Addr) (cap : Nat) (hL : L.length ≤ maxLen) (n : Int) (k : Nat) (W : World) (hB : BytesAt W a L) (hk : n % 40 = k) (hn0 : 0 ≤ n) (h255 : n ≤ 255) (hlo : 5 ≤ k) (hhi : k ≤ 6) :
    Calls Tryd.prog 5 #[.slice a L.length cap, .int .u8 n] W fun e w' => e = .returned (.bool true) ∧ Below W.heap.size W w' := by
  have hd14 : decide ((k : Int) ≤ 14) = true := by simp; omega
  go_enter Tryd.func5, Tryd.ntmps5
  go_wp2_with fail
  have hlet := lettersOf_let L k k
  have hlen : (lettersOf L k k).length = k := by rw [lettersOf_length]; unfold lettN; omega
  refine (letters22 L a cap k k (by omega) (by omega) hL W hB).mono ?_
  rintro e w' ⟨o, rfl, ho, rfl⟩
  have hsz : o.size = k := by rw [← len_eq, ho]; exact hlen
  have c17 := letter_letters hlet
  have c19 := abbr_letters hlet
  have c15 := set_letters hlet
  have c13 := zone_letters hlet
  rw [← ho] at c17 c19 c15 c13
  have hmx : o.size ≤ maxLen := by unfold maxLen; omega
  have hole : o.data.toList.length = k := by rw [len_eq]; exact hsz
  rw [hole] at c17 c19 c15 c13
  have e17 : letterOk o.data.toList = false := by rw [c17]; simp; omega
  have e19 : abbrOk o.data.toList = true := by rw [c19]; simp; omega
  have e15 : setOk o.data.toList = true := by rw [c15]; simp; omega
  have e13 : zoneOk o.data.toList = true := by rw [c13]; simp; omega
  have E17 := Lib.hid e17
  have E19 := Lib.hid e19
  have E15 := Lib.hid e15
  have E13 := Lib.hid e13
  clear e17 e19 e15 e13 c17 c19 c15 c13 ho hole hlen hlet hB hk
  go_wp2_with fail
  refine (letter17 o hmx _).mono ?_
  rw [E17.out]
  rintro e w0 ⟨rfl, h0⟩
  go_wp2_with fail
  refine (abbr19 o hmx _).mono ?_
  rw [E19.out]
  rintro e w1 ⟨rfl, h1⟩
  go_wp2_with fail
  refine (set15 o hmx _).mono ?_
  rw [E15.out]
  rintro e w2 ⟨rfl, h2⟩
  go_wp2_with fail
  refine (zone_any o hmx _).mono ?_
  rw [E13.out]
  rintro e w3 ⟨rfl, h3⟩
  go_wp2_with fail
  refine (letter17 o hmx _).mono ?_
  rw [E17.out]
  rintro e w4 ⟨rfl, h4⟩
  go_wp2_with fail
  refine (set15 o hmx _).mono ?_
  rw [E15.out]
  rintro e w5 ⟨rfl, h5⟩
  go_wp2_with fail
  refine (zone_any o hmx _).mono ?_
  rw [E13.out]
  rintro e w6 ⟨rfl, h6⟩
  go_wp2_with fail
  refine (works_any _).mono ?_
  rintro e w7 ⟨rfl, h7⟩
  go_wp2
  go_ret
  have e0 := h0.size
  have e1 := h1.size
  have e2 := h2.size
  have e3 := h3.size
  have e4 := h4.size
  have e5 := h5.size
  have e6 := h6.size
  exact ⟨rfl, h0.trans ((h1.mono (by omega)).trans ((h2.mono (by omega)).trans ((h3.mono (by omega)).trans ((h4.mono (by omega)).trans ((h5.mono (by omega)).trans ((h6.mono (by omega)).trans (h7.mono (by omega))))))))⟩

set_option maxHeartbeats 2000000 in
theorem among_case4 (L : List UInt8) (a : Option Addr) (cap : Nat) (hL : L.length ≤ maxLen) (n : Int) (k : Nat) (W : World) (hB : BytesAt W a L) (hk : n % 40 = k) (hn0 : 0 ≤ n) (h255 : n ≤ 255) (hlo : 7 ≤ k) (hhi : k ≤ 14) :
    Calls Tryd.prog 5 #[.slice a L.length cap, .int .u8 n] W fun e w' => e = .returned (.bool true) ∧ Below W.heap.size W w' := by
  have hd14 : decide ((k : Int) ≤ 14) = true := by simp; omega
  go_enter Tryd.func5, Tryd.ntmps5
  go_wp2_with fail
  have hlet := lettersOf_let L k k
  have hlen : (lettersOf L k k).length = k := by rw [lettersOf_length]; unfold lettN; omega
  refine (letters22 L a cap k k (by omega) (by omega) hL W hB).mono ?_
  rintro e w' ⟨o, rfl, ho, rfl⟩
  have hsz : o.size = k := by rw [← len_eq, ho]; exact hlen
  have c17 := letter_letters hlet
  have c19 := abbr_letters hlet
  have c15 := set_letters hlet
  have c13 := zone_letters hlet
  rw [← ho] at c17 c19 c15 c13
  have hmx : o.size ≤ maxLen := by unfold maxLen; omega
  have hole : o.data.toList.length = k := by rw [len_eq]; exact hsz
  rw [hole] at c17 c19 c15 c13
  have e17 : letterOk o.data.toList = false := by rw [c17]; simp; omega
  have e19 : abbrOk o.data.toList = false := by rw [c19]; simp; omega
  have e15 : setOk o.data.toList = true := by rw [c15]; simp; omega
  have e13 : zoneOk o.data.toList = true := by rw [c13]; simp; omega
  have E17 := Lib.hid e17
  have E19 := Lib.hid e19
  have E15 := Lib.hid e15
  have E13 := Lib.hid e13
  clear e17 e19 e15 e13 c17 c19 c15 c13 ho hole hlen hlet hB hk
  go_wp2_with fail
  refine (letter17 o hmx _).mono ?_
  rw [E17.out]
  rintro e w0 ⟨rfl, h0⟩
  go_wp2_with fail
  refine (abbr19 o hmx _).mono ?_
  rw [E19.out]
  rintro e w1 ⟨rfl, h1⟩
  go_wp2_with fail
  refine (set15 o hmx _).mono ?_
  rw [E15.out]
  rintro e w2 ⟨rfl, h2⟩
  go_wp2_with fail
  refine (zone_any o hmx _).mono ?_
  rw [E13.out]
  rintro e w3 ⟨rfl, h3⟩
  go_wp2_with fail
  refine (letter17 o hmx _).mono ?_
  rw [E17.out]
  rintro e w4 ⟨rfl, h4⟩
  go_wp2_with fail
  refine (set15 o hmx _).mono ?_
  rw [E15.out]
  rintro e w5 ⟨rfl, h5⟩
  go_wp2_with fail
  refine (zone_any o hmx _).mono ?_
  rw [E13.out]
  rintro e w6 ⟨rfl, h6⟩
  go_wp2_with fail
  refine (works_any _).mono ?_
  rintro e w7 ⟨rfl, h7⟩
  go_wp2
  go_ret
  have e0 := h0.size
  have e1 := h1.size
  have e2 := h2.size
  have e3 := h3.size
  have e4 := h4.size
  have e5 := h5.size
  have e6 := h6.size
  exact ⟨rfl, h0.trans ((h1.mono (by omega)).trans ((h2.mono (by omega)).trans ((h3.mono (by omega)).trans ((h4.mono (by omega)).trans ((h5.mono (by omega)).trans ((h6.mono (by omega)).trans (h7.mono (by omega))))))))⟩

set_option maxHeartbeats 2000000 in
theorem among_case5 (L : List UInt8) (a : Option Addr) (cap : Nat) (hL : L.length ≤ maxLen) (n : Int) (k : Nat) (W : World) (hB : BytesAt W a L) (hk : n % 40 = k) (hn0 : 0 ≤ n) (h255 : n ≤ 255) (hlo : 15 ≤ k) (hhi : k ≤ 30) :
    Calls Tryd.prog 5 #[.slice a L.length cap, .int .u8 n] W fun e w' => e = .returned (.bool true) ∧ Below W.heap.size W w' := by
  have hd14 : decide ((k : Int) ≤ 14) = false := by simp; omega
  go_enter Tryd.func5, Tryd.ntmps5
  go_wp2_with fail
  have hlet := lettersOf_let L k k
  have hlen : (lettersOf L k k).length = k := by rw [lettersOf_length]; unfold lettN; omega
  refine (letters22 L a cap k k (by omega) (by omega) hL W hB).mono ?_
  rintro e w' ⟨o, rfl, ho, rfl⟩
  have hsz : o.size = k := by rw [← len_eq, ho]; exact hlen
  have c17 := letter_letters hlet
  have c19 := abbr_letters hlet
  have c15 := set_letters hlet
  have c13 := zone_letters hlet
  rw [← ho] at c17 c19 c15 c13
  have hmx : o.size ≤ maxLen := by unfold maxLen; omega
  have hole : o.data.toList.length = k := by rw [len_eq]; exact hsz
  rw [hole] at c17 c19 c15 c13
  have e17 : letterOk o.data.toList = false := by rw [c17]; simp; omega
  have e19 : abbrOk o.data.toList = false := by rw [c19]; simp; omega
  have e15 : setOk o.data.toList = true := by rw [c15]; simp; omega
  have e13 : zoneOk o.data.toList = false := by rw [c13]; simp; omega
  have E17 := Lib.hid e17
  have E19 := Lib.hid e19
  have E15 := Lib.hid e15
  have E13 := Lib.hid e13
  clear e17 e19 e15 e13 c17 c19 c15 c13 ho hole hlen hlet hB hk
  go_wp2_with fail
  refine (letter17 o hmx _).mono ?_
  rw [E17.out]
  rintro e w0 ⟨rfl, h0⟩
  go_wp2_with fail
  refine (abbr19 o hmx _).mono ?_
  rw [E19.out]
  rintro e w1 ⟨rfl, h1⟩
  go_wp2_with fail
  refine (set15 o hmx _).mono ?_
  rw [E15.out]
  rintro e w2 ⟨rfl, h2⟩
  go_wp2_with fail
  refine (zone_any o hmx _).mono ?_
  rw [E13.out]
  rintro e w3 ⟨rfl, h3⟩
  go_wp2_with fail
  refine (letter17 o hmx _).mono ?_
  rw [E17.out]
  rintro e w4 ⟨rfl, h4⟩
  go_wp2_with fail
  refine (set15 o hmx _).mono ?_
  rw [E15.out]
  rintro e w5 ⟨rfl, h5⟩
  go_wp2_with fail
  refine (works_any _).mono ?_
  rintro e w6 ⟨rfl, h6⟩
  go_wp2
  go_ret
  have e0 := h0.size
  have e1 := h1.size
  have e2 := h2.size
  have e3 := h3.size
  have e4 := h4.size
  have e5 := h5.size
  exact ⟨rfl, h0.trans ((h1.mono (by omega)).trans ((h2.mono (by omega)).trans ((h3.mono (by omega)).trans ((h4.mono (by omega)).trans ((h5.mono (by omega)).trans (h6.mono (by omega)))))))⟩

set_option maxHeartbeats 2000000 in
theorem among_case6 (L : List UInt8) (a : Option Addr) (cap : Nat) (hL : L.length ≤ maxLen) (n : Int) (k : Nat) (W : World) (hB : BytesAt W a L) (hk : n % 40 = k) (hn0 : 0 ≤ n) (h255 : n ≤ 255) (hlo : 31 ≤ k) (hhi : k ≤ 39) :
    Calls Tryd.prog 5 #[.slice a L.length cap, .int .u8 n] W fun e w' => e = .returned (.bool true) ∧ Below W.heap.size W w' := by
  have hd14 : decide ((k : Int) ≤ 14) = false := by simp; omega
  go_enter Tryd.func5, Tryd.ntmps5
  go_wp2_with fail
  have hlet := lettersOf_let L k k
  have hlen : (lettersOf L k k).length = k := by rw [lettersOf_length]; unfold lettN; omega
  refine (letters22 L a cap k k (by omega) (by omega) hL W hB).mono ?_
  rintro e w' ⟨o, rfl, ho, rfl⟩
  have hsz : o.size = k := by rw [← len_eq, ho]; exact hlen
  have c17 := letter_letters hlet
  have c19 := abbr_letters hlet
  have c15 := set_letters hlet
  have c13 := zone_letters hlet
  rw [← ho] at c17 c19 c15 c13
  have hmx : o.size ≤ maxLen := by unfold maxLen; omega
  have hole : o.data.toList.length = k := by rw [len_eq]; exact hsz
  rw [hole] at c17 c19 c15 c13
  have e17 : letterOk o.data.toList = false := by rw [c17]; simp; omega
  have e19 : abbrOk o.data.toList = false := by rw [c19]; simp; omega
  have e15 : setOk o.data.toList = false := by rw [c15]; simp; omega
  have e13 : zoneOk o.data.toList = false := by rw [c13]; simp; omega
  have E17 := Lib.hid e17
  have E19 := Lib.hid e19
  have E15 := Lib.hid e15
  have E13 := Lib.hid e13
  clear e17 e19 e15 e13 c17 c19 c15 c13 ho hole hlen hlet hB hk
  go_wp2_with fail
  refine (letter17 o hmx _).mono ?_
  rw [E17.out]
  rintro e w0 ⟨rfl, h0⟩
  go_wp2_with fail
  refine (abbr19 o hmx _).mono ?_
  rw [E19.out]
  rintro e w1 ⟨rfl, h1⟩
  go_wp2_with fail
  refine (set15 o hmx _).mono ?_
  rw [E15.out]
  rintro e w2 ⟨rfl, h2⟩
  go_wp2_with fail
  refine (zone_any o hmx _).mono ?_
  rw [E13.out]
  rintro e w3 ⟨rfl, h3⟩
  go_wp2_with fail
  refine (letter17 o hmx _).mono ?_
  rw [E17.out]
  rintro e w4 ⟨rfl, h4⟩
  go_wp2_with fail
  refine (set15 o hmx _).mono ?_
  rw [E15.out]
  rintro e w5 ⟨rfl, h5⟩
  go_wp2_with fail
  refine (works_any _).mono ?_
  rintro e w6 ⟨rfl, h6⟩
  go_wp2
  go_ret
  have e0 := h0.size
  have e1 := h1.size
  have e2 := h2.size
  have e3 := h3.size
  have e4 := h4.size
  have e5 := h5.size
  exact ⟨rfl, h0.trans ((h1.mono (by omega)).trans ((h2.mono (by omega)).trans ((h3.mono (by omega)).trans ((h4.mono (by omega)).trans ((h5.mono (by omega)).trans (h6.mono (by omega)))))))⟩

theorem nameAmong_walk (a : Option Addr) (cap : Nat) (L : List UInt8) (hm : L.length ≤ maxLen) (W : World) (hb : BytesAt W a L) (n : Int) (hn : (Lit.int .u8 n).wf = true) :
    Calls Tryd.prog 5 #[.slice a L.length cap, .int .u8 n] W fun e w' => e = .returned (.bool true) ∧ Below W.heap.size W w' := by
  have hn' := bounds_u8 hn
  obtain ⟨k, hk⟩ : ∃ k : Nat, n % 40 = k := ⟨(n % 40).toNat, by omega⟩
  have h40 : k < 40 := by omega
  by_cases h1 : k ≤ 0
  · exact among_case0 L a cap hm n k W hb hk hn'.1 hn'.2 (by omega) h1
  by_cases h2 : k ≤ 2
  · exact among_case1 L a cap hm n k W hb hk hn'.1 hn'.2 (by omega) h2
  by_cases h3 : k ≤ 4
  · exact among_case2 L a cap hm n k W hb hk hn'.1 hn'.2 (by omega) h3
  by_cases h4 : k ≤ 6
  · exact among_case3 L a cap hm n k W hb hk hn'.1 hn'.2 (by omega) h4
  by_cases h5 : k ≤ 14
  · exact among_case4 L a cap hm n k W hb hk hn'.1 hn'.2 (by omega) h5
  by_cases h6 : k ≤ 30
  · exact among_case5 L a cap hm n k W hb hk hn'.1 hn'.2 (by omega) h6
  · exact among_case6 L a cap hm n k W hb hk hn'.1 hn'.2 (by omega) (by omega)

namespace nameAmong
theorem own : ownKnob Tryd.prog.godebug = none := by kernel_rfl
set_option maxRecDepth 100000 in
theorem lifted (os : Os) (started : os.Started) (H : Type) (enc : TypeId × Value → H) :
    ReturnsInHanded {} Tryd.checked os 5 .any (fun w args => (Rows.nameAmongSpec.pre enc Tryd.prog Tryd.f5 Rows.nameAmongRow.domain false w args ∧ laidMetH Tryd.prog Rows.nameAmongRow.laid w) ∧ sizedMet enc Tryd.prog Tryd.f5 (OpenSpec.ofChange Rows.nameAmongSpec) false w args)
      (Rows.nameAmongSpec.post enc Tryd.prog Tryd.f5 false true false false) := by
  refine returnsInHanded_of_change_and (C := Tryd.checked) (X := fun w _ => laidMetH Tryd.prog Rows.nameAmongRow.laid w) (fun _ _ _ hh h => h.of_heap hh) own started (by kernel_rfl) Tryd.func5
    (ChangeSpec.witness_shaped (enc := enc) (C := Tryd.checked) (os := os) (X := fun w _ => laidMetH Tryd.prog Rows.nameAmongRow.laid w) false (World.laidAll Tryd.prog os Rows.nameAmongRow.laid) #[.slice none 0 0, .int .u8 0] 8 (World.laidAll_os _ _ _)
      (World.shaped_of_ZipB (by kernel_rfl) (by kernel_rfl)) (by kernel_rfl) (by kernel_rfl) (by kernel_rfl)
      (by rw [MakeChecks.laidMetH_plain _ _ _ (by kernel_rfl)]; exact laidMet_laidAll _ (by kernel_rfl) (by kernel_rfl))) ?_
  intro W base args ds gs before hval0 hW _ _ _ _
  have hval : ∀ (j : Nat) t v, Tryd.f5.params[j]? = some t → args[j]? = some v → Value.okWide Tryd.prog W .any base t v := hval0
  have hW' := hW
  obtain ⟨p, q, hA0, hV, rfl, _, _⟩ := hW
  have hA : DataW.TrodAll enc Tryd.prog W 0 (fun _ => true) true Tryd.f5.params.toList args.toList ds p := hA0
  rw [Tryd.params5] at hA hval
  obtain ⟨v0, vs0, d0, ds0, p0, q0, hargs, rfl, rfl, h0, r0⟩ := trodAll_cons hA
  obtain ⟨v1, vs1, d1, ds1, p1, q1, rfl, rfl, rfl, h1, r1⟩ := trodAll_cons r0
  obtain ⟨rfl, rfl, rfl⟩ := trodAll_nil r1
  obtain rfl : args = #[v0, v1] := by cases args; simp_all
  obtain ⟨rfl, rfl⟩ := trodVars_none hV
  obtain ⟨a0, c0, L0, rfl, hm0, hc0, hx0, hb0⟩ := open_bytes (hval 0 25 v0 rfl rfl) h0
  obtain ⟨n1, rfl, rfl, rfl, hn1⟩ := open_int Tryd.underlying5 (hval 1 5 v1 rfl rfl) h1
  refine (nameAmong_walk a0 c0 L0 hm0 W hb0 n1 hn1).mono fun e W' ⟨he, hB⟩ => ?_
  subst he
  refine ⟨_, rfl, post_law (by kernel_rfl) ?_ rfl hW' rfl rfl Tryd.underlying4 hB⟩
  rw [Tryd.params5]
  intro t ht
  have hall : ([25, 5].all fun u => Tryd.prog.readableRec u && decide (u < Tryd.prog.types.size)) = true := by kernel_rfl
  have h1 := List.all_eq_true.1 hall t ht
  have h2 : Tryd.prog.readableRec t = true ∧ t < Tryd.prog.types.size := by simpa using h1
  exact h2

theorem said : Rows.NameAmongSaid :=
  OpenClaim.holds_of_wide 5 Tryd.f5 rfl rfl rfl rfl rfl rfl rfl ⟨rfl, rfl, rfl, rfl, rfl⟩ rfl rfl rfl rfl rfl (by kernel_rfl) Tryd.func5 (by kernel_rfl)
    (of_decide_eq_true (by kernel_rfl)) (by unfold Func.isWrapper; first | (rw [if_pos (by decide +kernel)]; kernel_rfl) | (rw [if_neg (by decide +kernel)]; exact ⟨rfl, rfl⟩))
    (fun os started H enc _ => lifted os started H enc)
theorem plain (f : FuncId) (fn : Func) (hf : Tryd.pinned.checked.prog.funcNamed "analemma/analemmalaw07.NameAmong" = some f) (hfn : Tryd.pinned.checked.prog.funcs[f]? = some fn) :
    false = Tryd.pinned.checked.prog.looks [] ∧ ∀ (j : Nat) t, fn.params[j]? = some t → Tryd.pinned.checked.prog.wantsStandIn t = false := by
  obtain rfl : f = 5 := Option.some.inj ((show Tryd.prog.funcNamed "analemma/analemmalaw07.NameAmong" = some 5 by kernel_rfl).symm.trans hf) |>.symm
  obtain rfl : fn = Tryd.f5 := (Option.some.inj (Tryd.func5.symm.trans hfn)).symm
  refine ⟨by kernel_rfl, fun j t ht => ?_⟩
  rw [Tryd.params5] at ht
  have hm : t ∈ [25, 5] := by simpa using Array.mem_of_getElem? ht
  have hall : ([25, 5].all fun u => !Tryd.prog.wantsStandIn u) = true := by kernel_rfl
  exact (show Tryd.prog.wantsStandIn t = false by simpa using List.all_eq_true.1 hall t hm)
theorem card : Rows.NameAmongCardSaid :=
  Claim7.holds_tied_plain_at .later [] _ _ _ _ said (fun _ h => by cases h) (by kernel_rfl) (fun _ h => by cases h) nameAmong_row_tie rfl ⟨rfl, rfl⟩ (by kernel_rfl) rfl plain (by kernel_rfl)
end nameAmong
#print axioms nameAmong.card
end Go.Proofs.YticmkjcaekhgpaaDoor
