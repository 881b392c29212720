/- The functions analemmaref04.Parse and Print: amounts of time, read and printed. -/
import Derived.Test.YtgllbagmmpicaaaGreatDoorOffR
namespace Go.Proofs.YtgllbagmmpicaaaGreatDoor.Off
open Go.RowKit
open Civ
open Px (len_list)

def parsePost (l : List UInt8) (w : World) (e : Ending) (w' : World) : Prop := e = .returned (.tuple #[.int .i64 (parseO l).1, .int .i64 (parseO l).2]) ∧ Below w.heap.size w w'
theorem parse_post {l : List UInt8} {w w' : World} {x y : Value} {a b : Int} (h : parseO l = (a, b)) (hx : x = .int .i64 a) (hy : y = .int .i64 b) (hB : Below w.heap.size w w') : parsePost l w (.returned (.tuple #[x, y])) w' := by
  unfold parsePost
  rw [h, hx, hy]
  exact ⟨rfl, hB⟩
theorem formR_bd (l : List UInt8) : 0 ≤ (formR l).1 ∧ (formR l).1 ≤ 4000000 := by
  unfold formR
  cases h : formL l with
  | none => exact ⟨Int.le_refl _, by decide⟩
  | some x =>
    refine ⟨Int.natCast_nonneg _, ?_⟩
    rw [formL_eq] at h
    by_cases hc : run digQ l = [] ∨ 3 < (run digQ l).length ∨ (1 < (run digQ l).length ∧ (run digQ l).headD 0 = 48)
    · rw [if_pos hc] at h; cases h
    · rw [if_neg hc] at h
      have hl : (run digQ l).length ≤ 3 := by omega
      have hall : (run digQ l).all digQ = true := by
        unfold run
        exact List.all_eq_true.2 (fun c hc => Px.takeWhile_all _ c hc)
      have hv := valD_lt _ hall
      have hp := Nat.pow_le_pow_right (n := 10) (by decide) hl
      have ht : ∀ q y, tailL q = some y → y ≤ 3599 := by
        intro q y hq
        unfold tailL at hq
        split at hq
        · cases hq; omega
        · split at hq
          · split at hq
            · cases hq
            · rename_i h1
              have := (pairL_some h1).2.2
              cases hq; omega
            · rename_i h1
              have h1' := (pairL_some h1).2.2
              split at hq
              · split at hq
                · rename_i h2
                  have := (pairL_some h2).2.2
                  cases hq; omega
                · cases hq
              · cases hq
          · cases hq
      cases ht2 : tailL (past digQ l) with
      | none => rw [ht2] at h; cases h
      | some y =>
        rw [ht2] at h
        have := ht _ _ ht2
        simp only [Option.some.injEq] at h
        dsimp only
        omega
theorem parseO_no {l : List UInt8} (h : formL (if l.headD 0 = 45 then l.drop 1 else l) = none) : parseO l = (0, 5) := by
  unfold parseO; dsimp only; rw [h]
theorem parseO_some {l : List UInt8} {x : Nat} (h : formL (if l.headD 0 = 45 then l.drop 1 else l) = some x) : parseO l = if l.headD 0 = 45 ∧ x = 0 then (0, 5) else if 604799 < x then (0, 3) else if l.headD 0 = 45 then (-(x : Int), 0) else ((x : Int), 0) := by
  unfold parseO; dsimp only; rw [h]
theorem formR_cases (l : List UInt8) : (formL l = none ∧ formR l = (0, false)) ∨ ∃ x : Nat, formL l = some x ∧ formR l = ((x : Int), true) ∧ x ≤ 4000000 := by
  have hb := formR_bd l
  unfold formR at *
  cases h : formL l with
  | none => exact .inl ⟨rfl, rfl⟩
  | some x => rw [h] at hb; dsimp only at hb; exact .inr ⟨x, rfl, rfl, by omega⟩
theorem headD_zero (s : ByteArray) (h : 0 < s.size) : s.data.toList.headD 0 = s[0] := by
  have := drop_one s 0 h
  rw [List.drop_zero] at this
  rw [this]; rfl
set_option maxHeartbeats 2000000 in
theorem ref_parse (s : ByteArray) (hs : s.size ≤ 1000000) (w : World) :
    Calls Tryz.prog 66 #[.string s] w (parsePost s.data.toList w) := by
  by_cases hm : ∃ h : 0 < s.size, s[0] = 45
  · obtain ⟨h0, h45⟩ := hm
    have hh : s.data.toList.headD 0 = 45 := by rw [headD_zero s h0, h45]
    have i0 : (0 : Int) < (s.size : Int) := by omega
    have t0 : ((s[0].toNat : Int) == 45) = true := by rw [h45]; rfl
    have i1 : (1 : Int) ≤ (s.size : Int) := by omega
    obtain ⟨r, hr⟩ : ∃ r, s.extract 1 s.size = r := ⟨_, rfl⟩
    have hrl : r.data.toList = s.data.toList.drop 1 := by rw [← hr, Lib.extract_to_end]
    have hrz : r.size ≤ 1000000 := by rw [← len_list, hrl, List.length_drop, len_list]; omega
    have C := Lib.hid (ref_form r hrz)
    unfold formPost at C
    rw [hrl] at C
    have HR := Lib.hid hr
    clear hr hrl hrz
    rcases formR_cases (s.data.toList.drop 1) with ⟨h1, h2⟩ | ⟨x, h1, h2, h3⟩
    · have HP := Lib.hid (parseO_no (l := s.data.toList) (by rw [if_pos hh]; exact h1))
      rw [h2] at C
      clear h1 h2 hh h45
      go_enter Tryz.func66, Tryz.ntmps66
      go_wp2_with fail
      rw [HR.out]
      refine (C.out _).mono ?_
      rintro e V ⟨rfl, hb⟩
      have HB := Lib.hid hb
      clear hb
      go_wp2_with fail
      go_ret2
      exact parse_post HP.out rfl rfl HB.out
    · have HP := Lib.hid (parseO_some (l := s.data.toList) (x := x) (by rw [if_pos hh]; exact h1))
      rw [h2] at C
      clear h1 h2 h45
      by_cases hx0 : x = 0
      · subst hx0
        have HP2 := Lib.hid (show parseO s.data.toList = (0, 5) by rw [HP.out, if_pos ⟨hh, rfl⟩])
        clear hh
        go_enter Tryz.func66, Tryz.ntmps66
        go_wp2_with fail
        rw [HR.out]
        refine (C.out _).mono ?_
        rintro e V ⟨rfl, hb⟩
        have HB := Lib.hid hb
        clear hb
        go_wp2_with fail
        go_ret2
        exact parse_post HP2.out rfl rfl HB.out
      · have tx : ((x : Int) == 0) = false := by rw [beq_eq_false_iff_ne]; omega
        by_cases hx : 604799 < x
        · have ix : (604799 : Int) < (x : Int) := by omega
          have HP2 := Lib.hid (show parseO s.data.toList = (0, 3) by rw [HP.out, if_neg (fun h => hx0 h.2), if_pos hx])
          clear hh hx0
          go_enter Tryz.func66, Tryz.ntmps66
          go_wp2_with fail
          rw [HR.out]
          refine (C.out _).mono ?_
          rintro e V ⟨rfl, hb⟩
          have HB := Lib.hid hb
          clear hb
          go_wp2_with fail
          go_ret2
          exact parse_post HP2.out rfl rfl HB.out
        · have ix : (x : Int) ≤ 604799 := by omega
          have HP2 := Lib.hid (show parseO s.data.toList = (-(x : Int), 0) by rw [HP.out, if_neg (fun h => hx0 h.2), if_neg hx, if_pos hh])
          clear hh hx0
          go_enter Tryz.func66, Tryz.ntmps66
          go_wp2_with fail
          rw [HR.out]
          refine (C.out _).mono ?_
          rintro e V ⟨rfl, hb⟩
          have HB := Lib.hid hb
          clear hb
          go_wp2_with fail
          go_ret2
          exact parse_post HP2.out rfl rfl HB.out
  · have hh : ¬ s.data.toList.headD 0 = 45 := by
      intro h
      by_cases h0 : 0 < s.size
      · exact hm ⟨h0, by rw [← headD_zero s h0, h]⟩
      · have : s.data.toList = [] := List.length_eq_zero_iff.1 (by rw [len_list]; omega)
        rw [this] at h; cases h
    have hc : (s.size : Int) ≤ 0 ∨ ((0 : Int) < (s.size : Int) ∧ ∃ h0 : 0 < s.size, ((s[0].toNat : Int) == 45) = false) := by
      by_cases h0 : 0 < s.size
      · right
        refine ⟨by omega, h0, ?_⟩
        rw [beq_eq_false_iff_ne]
        intro h
        exact hm ⟨h0, UInt8.toNat_inj.1 (by have : (45 : UInt8).toNat = 45 := rfl; omega)⟩
      · left; omega
    have C := Lib.hid (ref_form s hs)
    unfold formPost at C
    clear hm
    rcases formR_cases s.data.toList with ⟨h1, h2⟩ | ⟨x, h1, h2, h3⟩
    · have HP := Lib.hid (parseO_no (l := s.data.toList) (by rw [if_neg hh]; exact h1))
      rw [h2] at C
      clear h1 h2 hh
      rcases hc with hc | ⟨hc, h0, hc2⟩
      all_goals
        go_enter Tryz.func66, Tryz.ntmps66
        go_wp2_with fail
        refine (C.out _).mono ?_
        rintro e V ⟨rfl, hb⟩
        have HB := Lib.hid hb
        clear hb
        go_wp2_with fail
        go_ret2
        exact parse_post HP.out rfl rfl HB.out
    · have HP := Lib.hid (parseO_some (l := s.data.toList) (x := x) (by rw [if_neg hh]; exact h1))
      rw [h2] at C
      clear h1 h2
      by_cases hx : 604799 < x
      · have ix : (604799 : Int) < (x : Int) := by omega
        have HP2 := Lib.hid (show parseO s.data.toList = (0, 3) by rw [HP.out, if_neg (fun h => hh h.1), if_pos hx])
        clear hh
        rcases hc with hc | ⟨hc, h0, hc2⟩
        all_goals
          go_enter Tryz.func66, Tryz.ntmps66
          go_wp2_with fail
          refine (C.out _).mono ?_
          rintro e V ⟨rfl, hb⟩
          have HB := Lib.hid hb
          clear hb
          go_wp2_with fail
          go_ret2
          exact parse_post HP2.out rfl rfl HB.out
      · have ix : (x : Int) ≤ 604799 := by omega
        have HP2 := Lib.hid (show parseO s.data.toList = ((x : Int), 0) by rw [HP.out, if_neg (fun h => hh h.1), if_neg hx, if_neg hh])
        clear hh
        rcases hc with hc | ⟨hc, h0, hc2⟩
        all_goals
          go_enter Tryz.func66, Tryz.ntmps66
          go_wp2_with fail
          refine (C.out _).mono ?_
          rintro e V ⟨rfl, hb⟩
          have HB := Lib.hid hb
          clear hb
          go_wp2_with fail
          go_ret2
          exact parse_post HP2.out rfl rfl HB.out
end Go.Proofs.YtgllbagmmpicaaaGreatDoor.Off
