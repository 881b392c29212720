/- The functions of package analemmaref04 that read amounts of time. -/
import Derived.Test.YtgllbagmmpicaaaGreatDoorOffP
import Derived.Test.YtgllbagmmpicaaaGreatDoorPxN
namespace Go.Proofs.YtgllbagmmpicaaaGreatDoor.Off
open Go.RowKit
open Civ
open Px (len_list)

def digI (c : UInt8) : Int := if digQ c = true then (c.toNat : Int) - 48 else -1
theorem digQ_iff {c : UInt8} : digQ c = true ↔ (48 ≤ c.toNat ∧ c.toNat ≤ 57) := by unfold digQ; simp
theorem digI_pos {c : UInt8} (h : digQ c = true) : digI c = (c.toNat : Int) - 48 ∧ 0 ≤ digI c ∧ digI c ≤ 9 := by
  have e : digI c = (c.toNat : Int) - 48 := if_pos h
  rw [digQ_iff] at h
  rw [e]; omega
theorem digI_neg {c : UInt8} (h : digQ c = false) : digI c = -1 := if_neg (by rw [h]; decide)
theorem ref_digit (c : UInt8) (w : World) :
    Calls Tryz.prog 122 #[.int .u8 (c.toNat : Int)] w fun e w' => e = .returned (.int .i64 (digI c)) ∧ w' = w := by
  by_cases h : digQ c = true
  · rw [(digI_pos h).1]
    rw [digQ_iff] at h
    have h1 : (48 : Int) ≤ (c.toNat : Int) := by omega
    have h2 : (c.toNat : Int) ≤ 57 := by omega
    clear h
    go_enter Tryz.func122, Tryz.ntmps122
    go_wp2_with fail
    go_ret
    exact ⟨rfl, rfl⟩
  · have h' : digQ c = false := by simpa using h
    rw [digI_neg h']
    rw [digQ_iff] at h
    clear h'
    by_cases h1 : c.toNat < 48
    · have h2 : (c.toNat : Int) < 48 := by omega
      clear h h1
      go_enter Tryz.func122, Tryz.ntmps122
      go_wp2_with fail
      go_ret
      exact ⟨rfl, rfl⟩
    · have h2 : (48 : Int) ≤ (c.toNat : Int) := by omega
      have h3 : (57 : Int) < (c.toNat : Int) := by omega
      clear h h1
      go_enter Tryz.func122, Tryz.ntmps122
      go_wp2_with fail
      go_ret
      exact ⟨rfl, rfl⟩
/-- the number of two digits below 60 at a place; -1: none -/
def pairI (l : List UInt8) : Int := match pairL l with
  | some (m, _) => (m : Int)
  | none => -1
theorem drop_two (s : ByteArray) (i : Nat) (h : i + 2 ≤ s.size) : s.data.toList.drop i = s[i] :: s[i + 1] :: s.data.toList.drop (i + 2) := by
  have hl : i < s.data.toList.length := by rw [len_list]; omega
  have hl2 : i + 1 < s.data.toList.length := by rw [len_list]; omega
  rw [List.drop_eq_getElem_cons hl, List.drop_eq_getElem_cons hl2]
  rfl
theorem pairL_short (l : List UInt8) (h : l.length < 2) : pairL l = none := by
  match l, h with
  | [], _ => rfl
  | [_], _ => rfl
theorem pairI_two (a b : UInt8) (r : List UInt8) : pairI (a :: b :: r) = if (digQ a && digQ b && decide (a.toNat ≤ 53)) = true then 10 * ((a.toNat : Int) - 48) + ((b.toNat : Int) - 48) else -1 := by
  have e : pairL (a :: b :: r) = if (digQ a && digQ b && decide (a.toNat ≤ 53)) = true then some (10 * (a.toNat - 48) + (b.toNat - 48), r) else none := rfl
  unfold pairI
  rw [e]
  by_cases h : (digQ a && digQ b && decide (a.toNat ≤ 53)) = true
  · rw [if_pos h, if_pos h]
    simp only [Bool.and_eq_true] at h
    have h1 := digQ_iff.1 h.1.1
    have h2 := digQ_iff.1 h.1.2
    dsimp only
    omega
  · rw [if_neg h, if_neg h]
theorem digI_lt {c : UInt8} : (digI c < 0) ↔ digQ c = false := by
  by_cases h : digQ c = true
  · have := digI_pos h
    rw [h]; constructor
    · intro h2; omega
    · intro h2; cases h2
  · have h' : digQ c = false := by simpa using h
    rw [h', digI_neg h']; decide
set_option maxHeartbeats 2000000 in
theorem ref_pair (s : ByteArray) (i : Nat) (_hs : s.size ≤ 1000000) (hi : i ≤ 1000000) (w : World) :
    Calls Tryz.prog 123 #[.string s, .int .i64 (i : Int)] w fun e w' => e = .returned (.int .i64 (pairI (s.data.toList.drop i))) ∧ ∃ n, w' = w.drewN n := by
  by_cases h : i + 2 ≤ s.size
  · rw [drop_two s i h, pairI_two]
    have i1 : (i : Int) < (s.size : Int) := by omega
    have i2 : (i : Int) + 1 < (s.size : Int) := by omega
    have i3 : (i : Int) + 2 ≤ (s.size : Int) := by omega
    have j1 : i < s.size := by omega
    have j2 : i + 1 < s.size := by omega
    have CA := Lib.hid (ref_digit s[i])
    have CB := Lib.hid (ref_digit s[i + 1])
    obtain ⟨a, ha⟩ : ∃ a, digI s[i] = a := ⟨_, rfl⟩
    obtain ⟨b, hb⟩ : ∃ b, digI s[i + 1] = b := ⟨_, rfl⟩
    rw [ha] at CA
    rw [hb] at CB
    by_cases qa : digQ s[i] = true
    · have ea := digI_pos qa
      rw [ha] at ea
      obtain ⟨ea, ea0, ea9⟩ := ea
      by_cases qb : digQ s[i + 1] = true
      · have eb := digI_pos qb
        rw [hb] at eb
        obtain ⟨eb, eb0, eb9⟩ := eb
        by_cases q5 : s[i].toNat ≤ 53
        · rw [qa, qb, decide_eq_true q5, if_pos (show (true && true && true) = true from rfl), ← ea, ← eb]
          have a5 : a ≤ 5 := by omega
          have q1 : IntKind.i64.wrap (10 * a) = 10 * a := IntWalk.i64_in _ (by omega)
          have q2 : IntKind.i64.wrap (10 * a + b) = 10 * a + b := IntWalk.i64_in _ (by omega)
          have q3 : IntKind.i64.wrap ((i : Int) + 1) = (i : Int) + 1 := IntWalk.i64_in _ (by omega)
          have q4 : ((i : Int) + 1).toNat = i + 1 := by omega
          have q6 : (0 : Int) ≤ (i : Int) + 1 := by omega
          clear qa qb ea eb q5 h
          go_enter Tryz.func123, Tryz.ntmps123
          go_wp2_with fail
          refine (CA.out _).mono ?_
          rintro e w' ⟨rfl, rfl⟩
          go_wp2_with fail
          refine (CB.out _).mono ?_
          rintro e w' ⟨rfl, rfl⟩
          go_wp2_with fail
          refine (CA.out _).mono ?_
          rintro e w' ⟨rfl, rfl⟩
          go_wp2_with fail
          go_quiet ((go_at_call 122; exact Calls.quiet_of_same (ref_digit _ _)))
          go_wp2_with fail
          go_ret
          exact ⟨rfl, _, rfl⟩
        · have a5 : 5 < a := by omega
          rw [qa, qb, decide_eq_false q5, if_neg (show ¬(true && true && false) = true by decide)]
          clear ha hb qa qb ea eb q5 h
          go_enter Tryz.func123, Tryz.ntmps123
          go_wp2_with fail
          refine (CA.out _).mono ?_
          rintro e w' ⟨rfl, rfl⟩
          go_wp2_with fail
          refine (CB.out _).mono ?_
          rintro e w' ⟨rfl, rfl⟩
          go_wp2_with fail
          refine (CA.out _).mono ?_
          rintro e w' ⟨rfl, rfl⟩
          go_wp2_with fail
          go_ret
          exact ⟨rfl, 0, rfl⟩
      · have qb' : digQ s[i + 1] = false := by simpa using qb
        have b0 : b < 0 := by rw [← hb]; exact digI_lt.2 qb'
        rw [qa, qb', if_neg (show ¬(true && false && _) = true by simp)]
        clear ha hb qa qb qb' ea h
        go_enter Tryz.func123, Tryz.ntmps123
        go_wp2_with fail
        refine (CA.out _).mono ?_
        rintro e w' ⟨rfl, rfl⟩
        go_wp2_with fail
        refine (CB.out _).mono ?_
        rintro e w' ⟨rfl, rfl⟩
        go_wp2_with fail
        go_ret
        exact ⟨rfl, 0, rfl⟩
    · have qa' : digQ s[i] = false := by simpa using qa
      have a0 : a < 0 := by rw [← ha]; exact digI_lt.2 qa'
      rw [qa', if_neg (show ¬(false && _ && _) = true by simp)]
      clear ha hb qa qa' h
      go_enter Tryz.func123, Tryz.ntmps123
      go_wp2_with fail
      refine (CA.out _).mono ?_
      rintro e w' ⟨rfl, rfl⟩
      go_wp2_with fail
      go_ret
      exact ⟨rfl, 0, rfl⟩
  · rw [pairI, pairL_short _ (by rw [List.length_drop, len_list]; omega)]
    have i3 : (s.size : Int) < (i : Int) + 2 := by omega
    clear h
    go_enter Tryz.func123, Tryz.ntmps123
    go_wp2_with fail
    go_ret
    exact ⟨rfl, 0, rfl⟩
theorem ref_pair' (s : ByteArray) (x : Int) (i : Nat) (hx : x = i) (hs : s.size ≤ 1000000) (hi : i ≤ 1000000) (w : World) :
    Calls Tryz.prog 123 #[.string s, .int .i64 x] w fun e w' => e = .returned (.int .i64 (pairI (s.data.toList.drop i))) ∧ ∃ n, w' = w.drewN n := by
  subst hx; exact ref_pair s i hs hi w
theorem run_of {p : UInt8 → Bool} : ∀ (k : Nat) (l : List UInt8), k ≤ l.length → (l.take k).all p = true → (k = l.length ∨ ∃ h : k < l.length, p l[k] = false) → run p l = l.take k ∧ past p l = l.drop k
  | 0, [], _, _, _ => ⟨rfl, rfl⟩
  | 0, c :: r, _, _, h => by
    rcases h with h | ⟨_, h⟩
    · simp at h
    · unfold run past
      have h' : p c = false := h
      rw [List.takeWhile_cons_of_neg (by rw [h']; decide), List.dropWhile_cons_of_neg (by rw [h']; decide)]
      exact ⟨rfl, rfl⟩
  | k + 1, [], hk, _, _ => by simp at hk
  | k + 1, c :: r, hk, ha, h => by
    rw [List.take_succ_cons, List.all_cons, Bool.and_eq_true] at ha
    have ih := run_of (p := p) k r (by simpa using hk) ha.2 (by
      rcases h with h | ⟨hh, h⟩
      · left; simpa using h
      · right; exact ⟨by simpa using hh, by simpa using h⟩)
    unfold run past at *
    rw [List.takeWhile_cons_of_pos ha.1, List.dropWhile_cons_of_pos ha.1, ih.1, ih.2]
    exact ⟨rfl, rfl⟩
theorem run_long {p : UInt8 → Bool} : ∀ (k : Nat) (l : List UInt8), k ≤ l.length → (l.take k).all p = true → k ≤ (run p l).length
  | 0, _, _, _ => Nat.zero_le _
  | k + 1, [], hk, _ => by simp at hk
  | k + 1, c :: r, hk, ha => by
    rw [List.take_succ_cons, List.all_cons, Bool.and_eq_true] at ha
    have ih := run_long (p := p) k r (by simpa using hk) ha.2
    unfold run at *
    rw [List.takeWhile_cons_of_pos ha.1, List.length_cons]
    omega
theorem fold_lt : ∀ (l : List UInt8) (x : Nat), l.all digQ = true → l.foldl (fun x c => 10 * x + (c.toNat - 48)) x < (x + 1) * 10 ^ l.length
  | [], x, _ => by simp
  | c :: r, x, h => by
    rw [List.all_cons, Bool.and_eq_true] at h
    have h2 := digQ_iff.1 h.1
    have ih := fold_lt r (10 * x + (c.toNat - 48)) h.2
    rw [List.foldl_cons, List.length_cons, Nat.pow_succ]
    have h3 : (10 * x + (c.toNat - 48) + 1) * 10 ^ r.length ≤ (10 * (x + 1)) * 10 ^ r.length := Nat.mul_le_mul_right _ (by omega)
    have h4 : (x + 1) * (10 ^ r.length * 10) = (10 * (x + 1)) * 10 ^ r.length := by
      rw [Nat.mul_comm (10 ^ r.length) 10, ← Nat.mul_assoc, Nat.mul_comm (x + 1) 10]
    omega
theorem valD_lt (l : List UInt8) (h : l.all digQ = true) : valD l < 10 ^ l.length := by
  have := fold_lt l 0 h
  simpa [valD] using this
/-- what form returns -/
def formR (l : List UInt8) : Int × Bool := match formL l with
  | none => (0, false)
  | some x => ((x : Int), true)
theorem formL_eq (l : List UInt8) : formL l = if run digQ l = [] ∨ 3 < (run digQ l).length ∨ (1 < (run digQ l).length ∧ (run digQ l).headD 0 = 48) then none else match tailL (past digQ l) with
    | none => none
    | some x => some (3600 * valD (run digQ l) + x) := rfl
theorem pairL_some {l r : List UInt8} {m : Nat} (h : pairL l = some (m, r)) : r = l.drop 2 ∧ 2 ≤ l.length ∧ m ≤ 59 := by
  match l with
  | [] => cases h
  | [_] => cases h
  | a :: b :: q =>
    have e : pairL (a :: b :: q) = if (digQ a && digQ b && decide (a.toNat ≤ 53)) = true then some (10 * (a.toNat - 48) + (b.toNat - 48), q) else none := rfl
    rw [e] at h
    by_cases hc : (digQ a && digQ b && decide (a.toNat ≤ 53)) = true
    · rw [if_pos hc] at h
      simp only [Bool.and_eq_true, decide_eq_true_eq] at hc
      have h1 := digQ_iff.1 hc.1.1
      have h2 := digQ_iff.1 hc.1.2
      simp only [Option.some.injEq, Prod.mk.injEq] at h
      refine ⟨h.2.symm, by simp, by omega⟩
    · rw [if_neg hc] at h; cases h
theorem drop_one (s : ByteArray) (i : Nat) (h : i < s.size) : s.data.toList.drop i = s[i] :: s.data.toList.drop (i + 1) := by
  rw [List.drop_eq_getElem_cons (by rw [len_list]; exact h)]; rfl
theorem formL_bad {s : ByteArray} {k : Nat} (hr : run digQ s.data.toList = s.data.toList.take k) (hk : k ≤ s.size) (h : k = 0 ∨ (1 < k ∧ ∃ h0 : 0 < s.size, s[0] = 48)) : formL s.data.toList = none := by
  rw [formL_eq, hr]
  rcases h with rfl | ⟨h1, h0, h2⟩
  · rw [if_pos (.inl rfl)]
  · refine if_pos (.inr (.inr ⟨by rw [List.length_take, len_list]; omega, ?_⟩))
    have := drop_one s 0 h0
    rw [List.drop_zero] at this
    rw [this]
    obtain ⟨j, rfl⟩ : ∃ j, k = j + 1 := ⟨k - 1, by omega⟩
    rw [List.take_succ_cons, List.headD_cons, h2]
theorem formL_good {s : ByteArray} {k : Nat} (hr : run digQ s.data.toList = s.data.toList.take k ∧ past digQ s.data.toList = s.data.toList.drop k) (hk : k ≤ s.size) (h0 : 0 < k) (h3 : k ≤ 3) (h : k = 1 ∨ ∃ h0 : 0 < s.size, s[0] ≠ 48) :
    formL s.data.toList = match tailL (s.data.toList.drop k) with
      | none => none
      | some x => some (3600 * valD (s.data.toList.take k) + x) := by
  rw [formL_eq, hr.1, hr.2]
  refine if_neg ?_
  have hl : (s.data.toList.take k).length = k := by rw [List.length_take, len_list]; omega
  rintro (h1 | h1 | h1)
  · rw [h1] at hl; simp at hl; omega
  · omega
  · rcases h with h | ⟨hp, h⟩
    · omega
    · apply h
      have := drop_one s 0 hp
      rw [List.drop_zero] at this
      have h2 := h1.2
      rw [this] at h2
      obtain ⟨j, rfl⟩ : ∃ j, k = j + 1 := ⟨k - 1, by omega⟩
      rwa [List.take_succ_cons, List.headD_cons] at h2
/-- what stands behind the hours, by what the two pairs are -/
theorem tail_colon (r : List UInt8) : tailL (58 :: r) = match pairL r with
    | none => none
    | some (m, []) => some (60 * m)
    | some (m, c2 :: r3) => if c2 = 58 then
        match pairL r3 with
        | some (s, []) => some (60 * m + s)
        | _ => none
      else none := rfl
theorem tail_other {c : UInt8} (r : List UInt8) (h : c ≠ 58) : tailL (c :: r) = none := if_neg h
theorem pairI_none {l : List UInt8} (h : pairL l = none) : pairI l = -1 := by unfold pairI; rw [h]
theorem pairI_some {l r : List UInt8} {m : Nat} (h : pairL l = some (m, r)) : pairI l = m := by unfold pairI; rw [h]
def formPost (l : List UInt8) (w : World) (e : Ending) (w' : World) : Prop := e = .returned (.tuple #[.int .i64 (formR l).1, .bool (formR l).2]) ∧ Below w.heap.size w w'
theorem post_none {l : List UInt8} {w w' : World} {x y : Value} (hx : x = .int .i64 0) (hy : y = .bool false) (h : formL l = none) (hB : Below w.heap.size w w') : formPost l w (.returned (.tuple #[x, y])) w' := by
  unfold formPost formR
  rw [h, hx, hy]
  exact ⟨rfl, hB⟩
theorem post_some {l : List UInt8} {w w' : World} {x y : Value} {v : Nat} (h : formL l = some v) (hx : x = .int .i64 (v : Int)) (hy : y = .bool true) (hB : Below w.heap.size w w') : formPost l w (.returned (.tuple #[x, y])) w' := by
  unfold formPost formR
  rw [h, hx, hy]
  exact ⟨rfl, hB⟩
set_option maxHeartbeats 8000000 in
set_option maxRecDepth 100000 in
theorem ref_form (s : ByteArray) (hs : s.size ≤ 1000000) (w : World) :
    Calls Tryz.prog 94 #[.string s] w (formPost s.data.toList w) := by
  go_enter Tryz.func94, Tryz.ntmps94
  go_wp2_with fail
  go_loop [4, 5] (fun n h => ∃ k : Nat, k ≤ 3 ∧ k ≤ s.size ∧ (s.data.toList.take k).all digQ = true ∧ n = .int .i64 k ∧ h = .int .i64 (valD (s.data.toList.take k))) (fun n _ => 4 - (intOf n).toNat)
  case atStart => exact ⟨0, by omega, by omega, rfl, rfl, rfl⟩
  case round =>
    obtain ⟨k, hk3, hk, hall, rfl, rfl⟩ := hrel
    have hlt := valD_lt _ hall
    have hln : (s.data.toList.take k).length = k := by rw [List.length_take, len_list]; omega
    rw [hln] at hlt
    have hpw : 10 ^ k ≤ 1000 := by
      obtain rfl | rfl | rfl | rfl : k = 0 ∨ k = 1 ∨ k = 2 ∨ k = 3 := by omega
      all_goals decide
    obtain ⟨H, hH⟩ : ∃ H, valD (s.data.toList.take k) = H := ⟨_, rfl⟩
    rw [hH] at hlt ⊢
    have hH9 : H ≤ 999 := by omega
    have HH := Lib.hid hH
    have HALL := Lib.hid hall
    clear hlt hpw hH hall hln
    by_cases hks : k < s.size
    · have hki : (k : Int) < (s.size : Int) := by omega
      have CD := Lib.hid (ref_digit s[k])
      by_cases hd : digQ s[k] = true
      · obtain ⟨e1, e2, e3⟩ := digI_pos hd
        have hsn : s.data.toList.take (k + 1) = s.data.toList.take k ++ [s[k]] := Px.take_snoc s k hks
        have HA2 := Lib.hid (show (s.data.toList.take (k + 1)).all digQ = true by rw [hsn, List.all_append, HALL.out]; simp [hd])
        have HV2 := Lib.hid (show (valD (s.data.toList.take (k + 1)) : Int) = 10 * H + digI s[k] by
          rw [hsn, valD_snoc, HH.out, e1]; have := digQ_iff.1 hd; omega)
        obtain ⟨D, hD⟩ : ∃ D, digI s[k] = D := ⟨_, rfl⟩
        rw [hD] at CD HV2 e2 e3
        clear hd hsn e1 hD
        by_cases hk2 : k < 3
        · go_wp2_with fail
          refine (CD.out _).mono ?_
          rintro e w' ⟨rfl, rfl⟩
          go_wp2_with fail
          refine (CD.out _).mono ?_
          rintro e w' ⟨rfl, rfl⟩
          go_wp2_with fail
          go_round
          case rel => exact ⟨k + 1, by omega, by omega, HA2.out, by go_num, by rw [HV2.out]⟩
          case measure => simp [intOf]; omega
        · obtain rfl : k = 3 := by omega
          have hnone := Lib.hid (show formL s.data.toList = none by
            rw [formL_eq, if_pos (.inr (.inl (run_long 4 _ (by rw [len_list]; omega) HA2.out)))])
          go_wp2_with fail
          refine (CD.out _).mono ?_
          rintro e w' ⟨rfl, rfl⟩
          go_wp2_with fail
          refine (CD.out _).mono ?_
          rintro e w' ⟨rfl, rfl⟩
          go_wp2_with fail
          go_ret2
          exact post_none rfl rfl hnone.out (Below.refl _ _)
      · have hd' : digQ s[k] = false := by simpa using hd
        have hr := run_of (p := digQ) k s.data.toList (by rw [len_list]; omega) HALL.out (.inr ⟨by rw [len_list]; exact hks, hd'⟩)
        have hn : digI s[k] < 0 := digI_lt.2 hd'
        have HR := Lib.hid hr
        obtain ⟨D, hD⟩ : ∃ D, digI s[k] = D := ⟨_, rfl⟩
        rw [hD] at CD hn
        clear hd hd' hr hD
        by_cases hbad : k = 0 ∨ (1 < k ∧ ∃ h0 : 0 < s.size, s[0] = 48)
        · have hnone := Lib.hid (formL_bad HR.out.1 hk hbad)
          rcases hbad with rfl | ⟨hb1, hb0, hb⟩
          · go_wp2_with fail
            refine (CD.out _).mono ?_
            rintro e w' ⟨rfl, rfl⟩
            go_wp2_with fail
            go_ret2
            exact post_none rfl rfl hnone.out (Below.refl _ _)
          · have t0 : ((k : Int) == 0) = false := by rw [beq_eq_false_iff_ne]; omega
            have t1 : ((s[0].toNat : Int) == 48) = true := by rw [hb]; rfl
            have hb1' : (1 : Int) < (k : Int) := by omega
            clear hb
            go_wp2_with fail
            refine (CD.out _).mono ?_
            rintro e w' ⟨rfl, rfl⟩
            go_wp2_with fail
            go_ret2
            exact post_none rfl rfl hnone.out (Below.refl _ _)
        · have hk0 : 0 < k := by omega
          have hs0 : 0 < s.size := by omega
          have hgood : (k : Int) ≤ 1 ∨ ((1 : Int) < (k : Int) ∧ ((s[0].toNat : Int) == 48) = false) := by
            by_cases hk1 : k = 1
            · left; omega
            · right
              refine ⟨by omega, ?_⟩
              rw [beq_eq_false_iff_ne]
              intro h
              exact hbad (.inr ⟨by omega, hs0, UInt8.toNat_inj.1 (by have : (48 : UInt8).toNat = 48 := rfl; omega)⟩)
          have HF := Lib.hid (formL_good HR.out hk hk0 hk3 (by
            by_cases hk1 : k = 1
            · exact .inl hk1
            · exact .inr ⟨hs0, fun h => hbad (.inr ⟨by omega, hs0, h⟩)⟩))
          have t0 : ((k : Int) == 0) = false := by rw [beq_eq_false_iff_ne]; omega
          have tl : ((s.size : Int) == (k : Int)) = false := by rw [beq_eq_false_iff_ne]; omega
          have HH2 := Lib.hid (show valD (s.data.toList.take k) = H from HH.out)
          have HD1 := Lib.hid (drop_one s k hks)
          have HP1 := Lib.hid (fun w => ref_pair' s ((k : Int) + 1) (k + 1) (by omega) hs (by omega) w)
          have HP2 := Lib.hid (fun w => ref_pair' s ((k : Int) + 4) (k + 4) (by omega) hs (by omega) w)
          obtain ⟨P1, hP1⟩ : ∃ P, pairI (s.data.toList.drop (k + 1)) = P := ⟨_, rfl⟩
          obtain ⟨P2, hP2⟩ : ∃ P, pairI (s.data.toList.drop (k + 4)) = P := ⟨_, rfl⟩
          rw [hP1] at HP1
          rw [hP2] at HP2
          obtain ⟨ck, hck⟩ : ∃ c, s[k] = c := ⟨_, rfl⟩
          have HCK := Lib.hid hck
          by_cases hc : ck = 58
          · have tc : ((s[k].toNat : Int) != 58) = false := by rw [hck, hc]; rfl
            rw [HD1.out, hck, hc, tail_colon] at HF
            cases hp1 : pairL (s.data.toList.drop (k + 1)) with
            | none =>
              rw [hp1] at HF
              rw [pairI_none hp1] at hP1
              subst hP1
              clear hP2 HP2 hck hc hp1 hbad
              rcases hgood with hg | ⟨hg, hg2⟩
              all_goals
                go_wp2_with fail
                refine (CD.out _).mono ?_
                rintro e w' ⟨rfl, rfl⟩
                go_wp2_with fail
                refine (HP1.out _).mono ?_
                rintro e w' ⟨rfl, n1, rfl⟩
                go_wp2_with fail
                go_ret2
                exact post_none rfl rfl HF.out (Civ.below_drewN (Below.refl _ _) _)
            | some q =>
              obtain ⟨m, r⟩ := q
              obtain ⟨hr1, hr2, hm⟩ := pairL_some hp1
              rw [List.drop_drop] at hr1
              have hk3 : k + 3 ≤ s.size := by rw [List.length_drop, len_list] at hr2; omega
              rw [hp1] at HF
              rw [pairI_some hp1] at hP1
              subst hP1
              have hmi : (m : Int) ≤ 59 := by omega
              have hm0 : ¬ (m : Int) < 0 := by omega
              by_cases hk4 : k + 3 = s.size
              · have hr0 : r = [] := by rw [hr1]; exact List.drop_eq_nil_of_le (by rw [len_list]; omega)
                rw [hr0] at HF
                dsimp only at HF
                rw [HH2.out] at HF
                have tl3 : ((s.size : Int) == (k : Int) + 3) = true := by rw [beq_iff_eq]; omega
                clear hP2 HP2 hck hc hp1 hbad hr1 hr0 hr2
                rcases hgood with hg | ⟨hg, hg2⟩
                all_goals
                  go_wp2_with fail
                  refine (CD.out _).mono ?_
                  rintro e w' ⟨rfl, rfl⟩
                  go_wp2_with fail
                  refine (HP1.out _).mono ?_
                  rintro e w' ⟨rfl, n1, rfl⟩
                  go_wp2_with fail
                  go_ret2
                  exact post_some HF.out (congrArg (Value.int .i64) (by omega)) rfl (Civ.below_drewN (Below.refl _ _) _)
              · have hk3' : k + 3 < s.size := by omega
                have hrc : r = s[k + 3] :: s.data.toList.drop (k + 4) := by rw [hr1]; exact drop_one s (k + 3) hk3'
                rw [hrc] at HF
                dsimp only at HF
                have tl3 : ((s.size : Int) == (k : Int) + 3) = false := by rw [beq_eq_false_iff_ne]; omega
                have hk3i : (k : Int) + 3 < (s.size : Int) := by omega
                by_cases hd3 : s[k + 3] = 58
                · rw [if_pos hd3] at HF
                  have td : ((s[k + 3].toNat : Int) != 58) = false := by rw [hd3]; rfl
                  cases hp2 : pairL (s.data.toList.drop (k + 4)) with
                  | none =>
                    rw [hp2] at HF
                    rw [pairI_none hp2] at hP2
                    subst hP2
                    clear hck hc hp1 hp2 hbad hr1 hr2 hrc hd3
                    rcases hgood with hg | ⟨hg, hg2⟩
                    all_goals
                      go_wp2_with fail
                      refine (CD.out _).mono ?_
                      rintro e w' ⟨rfl, rfl⟩
                      go_wp2_with fail
                      refine (HP1.out _).mono ?_
                      rintro e w' ⟨rfl, n1, rfl⟩
                      go_wp2_with fail
                      refine (HP2.out _).mono ?_
                      rintro e w' ⟨rfl, n2, rfl⟩
                      go_wp2_with fail
                      go_ret2
                      exact post_none rfl rfl HF.out (Civ.below_drewN (Below.refl _ _) _)
                  | some q2 =>
                    obtain ⟨m2, r4⟩ := q2
                    obtain ⟨hs1, hs2, hm2⟩ := pairL_some hp2
                    rw [List.drop_drop] at hs1
                    have hk6 : k + 6 ≤ s.size := by rw [List.length_drop, len_list] at hs2; omega
                    rw [hp2] at HF
                    rw [pairI_some hp2] at hP2
                    subst hP2
                    have hmi2 : (m2 : Int) ≤ 59 := by omega
                    have hm02 : ¬ (m2 : Int) < 0 := by omega
                    by_cases hk7 : k + 6 = s.size
                    · have hr0 : r4 = [] := by rw [hs1]; exact List.drop_eq_nil_of_le (by rw [len_list]; omega)
                      rw [hr0] at HF
                      dsimp only at HF
                      rw [HH2.out] at HF
                      have tl6 : ((s.size : Int) != (k : Int) + 6) = false := by rw [bne_eq_false_iff_eq]; omega
                      clear hck hc hp1 hp2 hbad hr1 hr2 hrc hd3 hs1 hs2 hr0
                      rcases hgood with hg | ⟨hg, hg2⟩
                      all_goals
                        go_wp2_with fail
                        refine (CD.out _).mono ?_
                        rintro e w' ⟨rfl, rfl⟩
                        go_wp2_with fail
                        refine (HP1.out _).mono ?_
                        rintro e w' ⟨rfl, n1, rfl⟩
                        go_wp2_with fail
                        refine (HP2.out _).mono ?_
                        rintro e w' ⟨rfl, n2, rfl⟩
                        go_wp2_with fail
                        go_ret2
                        exact post_some HF.out (congrArg (Value.int .i64) (by omega)) rfl (Civ.below_drewN (Below.refl _ _) _)
                    · have hr0 : ∃ x y, r4 = x :: y := ⟨_, _, by rw [hs1]; exact drop_one s (k + 6) (by omega)⟩
                      obtain ⟨x, y, hr0⟩ := hr0
                      rw [hr0] at HF
                      dsimp only at HF
                      have tl6 : ((s.size : Int) != (k : Int) + 6) = true := by rw [bne_iff_ne]; omega
                      clear hck hc hp1 hp2 hbad hr1 hr2 hrc hd3 hs1 hs2 hr0
                      rcases hgood with hg | ⟨hg, hg2⟩
                      all_goals
                        go_wp2_with fail
                        refine (CD.out _).mono ?_
                        rintro e w' ⟨rfl, rfl⟩
                        go_wp2_with fail
                        refine (HP1.out _).mono ?_
                        rintro e w' ⟨rfl, n1, rfl⟩
                        go_wp2_with fail
                        refine (HP2.out _).mono ?_
                        rintro e w' ⟨rfl, n2, rfl⟩
                        go_wp2_with fail
                        go_ret2
                        exact post_none rfl rfl HF.out (Civ.below_drewN (Below.refl _ _) _)
                · rw [if_neg hd3] at HF
                  have td : ((s[k + 3].toNat : Int) != 58) = true := by rw [bne_iff_ne]; intro h; exact hd3 (UInt8.toNat_inj.1 (by have : (58 : UInt8).toNat = 58 := rfl; omega))
                  clear hP2 hck hc hp1 hbad hr1 hr2 hrc hd3
                  rcases hgood with hg | ⟨hg, hg2⟩
                  all_goals
                    go_wp2_with fail
                    refine (CD.out _).mono ?_
                    rintro e w' ⟨rfl, rfl⟩
                    go_wp2_with fail
                    refine (HP1.out _).mono ?_
                    rintro e w' ⟨rfl, n1, rfl⟩
                    go_wp2_with fail
                    refine (HP2.out _).mono ?_
                    rintro e w' ⟨rfl, n2, rfl⟩
                    go_wp2_with fail
                    go_ret2
                    exact post_none rfl rfl HF.out (Civ.below_drewN (Below.refl _ _) _)
          · have tc : ((s[k].toNat : Int) != 58) = true := by rw [hck, bne_iff_ne]; intro h; exact hc (UInt8.toNat_inj.1 (by have : (58 : UInt8).toNat = 58 := rfl; omega))
            rw [HD1.out, hck, tail_other _ hc] at HF
            clear hP1 hP2 HP2 hck hc hbad
            rcases hgood with hg | ⟨hg, hg2⟩
            all_goals
              go_wp2_with fail
              refine (CD.out _).mono ?_
              rintro e w' ⟨rfl, rfl⟩
              go_wp2_with fail
              refine (HP1.out _).mono ?_
              rintro e w' ⟨rfl, n1, rfl⟩
              go_wp2_with fail
              go_ret2
              exact post_none rfl rfl HF.out (Civ.below_drewN (Below.refl _ _) _)
    · obtain rfl : k = s.size := by omega
      have hr := run_of (p := digQ) s.size s.data.toList (by rw [len_list]; omega) HALL.out (.inl (len_list s).symm)
      have HR := Lib.hid hr
      clear hr
      by_cases hbad : s.size = 0 ∨ (1 < s.size ∧ ∃ h0 : 0 < s.size, s[0] = 48)
      · have hnone := Lib.hid (formL_bad HR.out.1 hk hbad)
        rcases hbad with hz | ⟨hb1, hb0, hb⟩
        · have t0 : ((s.size : Int) == 0) = true := by rw [beq_iff_eq]; omega
          clear hz
          go_wp2_with fail
          go_ret2
          exact post_none rfl rfl hnone.out (Below.refl _ _)
        · have t0 : ((s.size : Int) == 0) = false := by rw [beq_eq_false_iff_ne]; omega
          have t1 : ((s[0].toNat : Int) == 48) = true := by rw [hb]; rfl
          have hb1' : (1 : Int) < (s.size : Int) := by omega
          clear hb
          go_wp2_with fail
          go_ret2
          exact post_none rfl rfl hnone.out (Below.refl _ _)
      · have hs0 : 0 < s.size := by omega
        have hgood : (s.size : Int) ≤ 1 ∨ ((1 : Int) < (s.size : Int) ∧ ((s[0].toNat : Int) == 48) = false) := by
          by_cases hk1 : s.size = 1
          · left; omega
          · right
            refine ⟨by omega, ?_⟩
            rw [beq_eq_false_iff_ne]
            intro h
            exact hbad (.inr ⟨by omega, hs0, UInt8.toNat_inj.1 (by have : (48 : UInt8).toNat = 48 := rfl; omega)⟩)
        have HF := Lib.hid (formL_good HR.out hk hs0 hk3 (by
          by_cases hk1 : s.size = 1
          · exact .inl hk1
          · exact .inr ⟨hs0, fun h => hbad (.inr ⟨by omega, hs0, h⟩)⟩))
        have hdn : s.data.toList.drop s.size = [] := List.drop_eq_nil_of_le (by rw [len_list]; omega)
        rw [hdn] at HF
        have e0 : tailL [] = some 0 := rfl
        rw [e0] at HF
        dsimp only at HF
        rw [HH.out] at HF
        have t0 : ((s.size : Int) == 0) = false := by rw [beq_eq_false_iff_ne]; omega
        clear hbad hdn e0
        rcases hgood with hg | ⟨hg, hg2⟩
        all_goals
          go_wp2_with fail
          go_ret2
          exact post_some HF.out (congrArg (Value.int .i64) (by omega)) rfl (Below.refl _ _)
end Go.Proofs.YtgllbagmmpicaaaGreatDoor.Off
