/- The function lexeme.Fields, called with any string in any world, returns the fields and the error that fieldsL and fieldsE say; no block that was there changes. -/
import Derived.Test.YticmkjcaekhgpaaDoorLexA
namespace Go.Proofs.YticmkjcaekhgpaaDoor.Lex
open Go.RowKit

theorem go_quo (c : UInt8) (r : List UInt8) (out : List (List UInt8)) (f : List UInt8) (ins : Bool) : fieldsGo (c :: r) out f ins true = if c.toNat = 34 then fieldsGo r out f ins false else if printB c.toNat then fieldsGo r out (f ++ [c]) ins true else none := rfl
theorem go_not (c : UInt8) (r : List UInt8) (out : List (List UInt8)) (f : List UInt8) (ins : Bool) : fieldsGo (c :: r) out f ins false =
    if c.toNat = 34 then fieldsGo r out f true true else if c.toNat = 35 then some (if ins then out ++ [f] else out)
    else if c.toNat = 9 ∨ c.toNat = 32 then (if ins then fieldsGo r (out ++ [f]) [] false false else fieldsGo r out f false false)
    else if printB c.toNat then fieldsGo r out (f ++ [c]) true false else none := rfl

set_option maxHeartbeats 8000000 in
set_option maxRecDepth 100000 in
theorem fields_go (s : ByteArray) (hs : s.size ≤ 300) (R : Option (List (List UInt8))) (hR : fieldsGo s.data.toList [] [] false false = R) (w : World) :
    Calls Tryd.prog 34 #[.string s] w (FieldsPost R w) := by
  obtain ⟨i5, hi5, hz50, hz51, hz52⟩ := info_parts info5
  obtain ⟨i9, hi9, hz90, hz91, hz92⟩ := info_parts info9
  have HR := Lib.hid hR
  clear hR
  go_enter Tryd.func34, Tryd.ntmps34
  go_wp2
  go_step3
  go_wp2
  go_step3
  go_wp2
  go_loopw [4, 5, 6, 7, 15] (fun v4 v5 v6 v7 i wr => ∃ (k : Nat) (out : List (List UInt8)) (f : List UInt8) (ins quo : Bool), k ≤ s.size ∧ i = .int .i64 k ∧ v6 = .bool ins ∧ v7 = .bool quo ∧ AtByte s R k out f ins quo v4 v5 w wr) (fun _ _ _ _ i _ => s.size - (intOf i).toNat)
  case atStart => exact ⟨0, [], [], false, false, by omega, rfl, rfl, rfl, HR.out, World.ownsRow_nil _ _ _ _, World.ownsRow_nil _ _ _ _, by simp, by simp, Below.refl _ _⟩
  case round =>
    obtain ⟨k, out, f, ins, quo, hk, rfl, rfl, rfl, hA⟩ := hrel
    have HA := Lib.hid hA
    have hcv := convert_own hA.field
    clear hA
    by_cases hlt : k < s.size
    · have hd := HA.out.rest
      rw [drop_at s k hlt] at hd
      cases quo
      · rw [go_not] at hd
        by_cases c34 : s[k].toNat = 34
        · rw [if_pos c34] at hd
          have HD := Lib.hid hd
          have t34 : ((s[k].toNat : Int) == 34) = true := by rw [c34]; rfl
          clear hd c34 hcv
          go_wp2
          go_roundw
          case rel => exact ⟨k + 1, out, f, true, true, by omega, by go_num, rfl, rfl, HA.out.same HD.out⟩
          case measure => simp [intOf]; omega
        rw [if_neg c34] at hd
        have t34 : ((s[k].toNat : Int) == 34) = false := by rw [beq_eq_false_iff_ne]; omega
        by_cases c35 : s[k].toNat = 35
        · rw [if_pos c35] at hd
          have t35 : ((s[k].toNat : Int) == 35) = true := by rw [c35]; rfl
          clear c34 c35
          cases ins
          · have HD := Lib.hid hd
            clear hd hcv
            go_wp2
            try rw [Exit.noGoto_ret]
            go_ret2
            exact post_some out HD.out.symm HA.out.outs HA.out.below
          · have HD := Lib.hid hd
            clear hd
            go_wp2_with (at_builtin; refine wpList_append_own _ rfl _ _ 31 rfl w.heap.size 9 i9 (.string ⟨#[]⟩) 1 16 Tryd.underlying31 hi9 hz90 hz91 hz92 rfl (by decide) u4 out.length (out.map strV) rfl (HA.out.outs.alloc _) ⟨wr.heap.size, 0, none⟩ 1 1 [strV f] rfl rfl ?g1 ?g2 ?g3 ?g4 ?g5 ?_; (case g1 => exact cell_one_new _ _ _); (case g2 => simp [Value.oneCell', strV]); (case g3 => have := HA.out.few; unfold maxLen; omega); (case g4 => have := HA.out.few; omega); (case g5 => have := HA.out.below.size; simp; omega); intro v' w1 hown' hgrow _; have HO := Lib.hid hown'; have HG := Lib.hid hgrow; clear hown' hgrow)
            try rw [Exit.noGoto_ret]
            go_ret2
            exact post_some (out ++ [f]) HD.out.symm (HA.out.last HO.out HG.out).1 (HA.out.last HO.out HG.out).2
        rw [if_neg c35] at hd
        have t35 : ((s[k].toNat : Int) == 35) = false := by rw [beq_eq_false_iff_ne]; omega
        by_cases c9 : s[k].toNat = 9
        · rw [if_pos (by omega)] at hd
          have t9 : ((s[k].toNat : Int) == 9) = true := by rw [c9]; rfl
          clear c34 c35
          cases ins
          · have HD := Lib.hid hd
            clear hd hcv c9
            go_wp2
            go_roundw
            case rel => exact ⟨k + 1, out, f, false, false, by omega, by go_num, rfl, rfl, HA.out.same HD.out⟩
            case measure => simp [intOf]; omega
          · have HD := Lib.hid hd
            clear hd c9
            go_wp2_with (at_builtin; refine wpList_append_own _ rfl _ _ 31 rfl w.heap.size 9 i9 (.string ⟨#[]⟩) 1 16 Tryd.underlying31 hi9 hz90 hz91 hz92 rfl (by decide) u4 out.length (out.map strV) rfl (HA.out.outs.alloc _) ⟨wr.heap.size, 0, none⟩ 1 1 [strV f] rfl rfl ?g1 ?g2 ?g3 ?g4 ?g5 ?_; (case g1 => exact cell_one_new _ _ _); (case g2 => simp [Value.oneCell', strV]); (case g3 => have := HA.out.few; unfold maxLen; omega); (case g4 => have := HA.out.few; omega); (case g5 => have := HA.out.below.size; simp; omega); intro v' w1 hown' hgrow _; have HO := Lib.hid hown'; have HG := Lib.hid hgrow; clear hown' hgrow)
            go_roundw
            case rel => exact ⟨k + 1, out ++ [f], [], false, false, by omega, by go_num, rfl, rfl, HA.out.flush HD.out HO.out HG.out⟩
            case measure => simp [intOf]; omega
        have t9 : ((s[k].toNat : Int) == 9) = false := by rw [beq_eq_false_iff_ne]; omega
        by_cases c32 : s[k].toNat = 32
        · rw [if_pos (by omega)] at hd
          have t32 : ((s[k].toNat : Int) == 32) = true := by rw [c32]; rfl
          clear c34 c35
          cases ins
          · have HD := Lib.hid hd
            clear hd hcv c32
            go_wp2
            go_roundw
            case rel => exact ⟨k + 1, out, f, false, false, by omega, by go_num, rfl, rfl, HA.out.same HD.out⟩
            case measure => simp [intOf]; omega
          · have HD := Lib.hid hd
            clear hd c32
            go_wp2_with (at_builtin; refine wpList_append_own _ rfl _ _ 31 rfl w.heap.size 9 i9 (.string ⟨#[]⟩) 1 16 Tryd.underlying31 hi9 hz90 hz91 hz92 rfl (by decide) u4 out.length (out.map strV) rfl (HA.out.outs.alloc _) ⟨wr.heap.size, 0, none⟩ 1 1 [strV f] rfl rfl ?g1 ?g2 ?g3 ?g4 ?g5 ?_; (case g1 => exact cell_one_new _ _ _); (case g2 => simp [Value.oneCell', strV]); (case g3 => have := HA.out.few; unfold maxLen; omega); (case g4 => have := HA.out.few; omega); (case g5 => have := HA.out.below.size; simp; omega); intro v' w1 hown' hgrow _; have HO := Lib.hid hown'; have HG := Lib.hid hgrow; clear hown' hgrow)
            go_roundw
            case rel => exact ⟨k + 1, out ++ [f], [], false, false, by omega, by go_num, rfl, rfl, HA.out.flush HD.out HO.out HG.out⟩
            case measure => simp [intOf]; omega
        have t32 : ((s[k].toNat : Int) == 32) = false := by rw [beq_eq_false_iff_ne]; omega
        rw [if_neg (by omega)] at hd
        clear c34 c35 c9 c32
        cases hp : printB s[k].toNat
        · have HP := Lib.hid hp
          rw [hp] at hd
          have hn : R = none := hd.symm
          subst hn
          clear hd hp hcv
          go_wp2_with (go_at_call 50; refine (printable_is false _ _ HP.out).mono ?_; rintro e w' ⟨rfl, rfl⟩)
          try rw [Exit.noGoto_ret]
          go_ret2
          exact post_none HA.out.below
        · have HP := Lib.hid hp
          rw [hp] at hd
          have HD := Lib.hid ((if_pos rfl).symm.trans hd)
          clear hd hp hcv
          go_wp2_with (first | (go_at_call 50; refine (printable_is true _ _ HP.out).mono ?_; rintro e w' ⟨rfl, rfl⟩) | (at_builtin; refine wpList_append_own _ rfl _ _ 25 rfl w.heap.size 5 i5 (.int .u8 0) 1 1 Tryd.underlying25 hi5 hz50 hz51 hz52 rfl (by decide) u5 f.length (f.map byteV) rfl (HA.out.field.alloc _) ⟨wr.heap.size, 0, none⟩ 1 1 [byteV s[k]] rfl rfl ?g1 ?g2 ?g3 ?g4 ?g5 ?_; (case g1 => exact cell_one_new _ _ _); (case g2 => simp [Value.oneCell', byteV]); (case g3 => have := HA.out.short; unfold maxLen; omega); (case g4 => have := HA.out.short; omega); (case g5 => have := HA.out.below.size; simp; omega); intro v' w1 hown' hgrow _; have HO := Lib.hid hown'; have HG := Lib.hid hgrow; clear hown' hgrow))
          go_roundw
          case rel => exact ⟨k + 1, out, f ++ [s[k]], true, false, by omega, by go_num, rfl, rfl, HA.out.byte _ HD.out HO.out HG.out⟩
          case measure => simp [intOf]; omega
      · rw [go_quo] at hd
        by_cases c34 : s[k].toNat = 34
        · rw [if_pos c34] at hd
          have HD := Lib.hid hd
          have t34 : ((s[k].toNat : Int) == 34) = true := by rw [c34]; rfl
          clear hd c34 hcv
          go_wp2
          go_roundw
          case rel => exact ⟨k + 1, out, f, ins, false, by omega, by go_num, rfl, rfl, HA.out.same HD.out⟩
          case measure => simp [intOf]; omega
        rw [if_neg c34] at hd
        have t34 : ((s[k].toNat : Int) == 34) = false := by rw [beq_eq_false_iff_ne]; omega
        clear c34
        cases hp : printB s[k].toNat
        · have HP := Lib.hid hp
          rw [hp] at hd
          have hn : R = none := hd.symm
          subst hn
          clear hd hp hcv
          go_wp2_with (go_at_call 50; refine (printable_is false _ _ HP.out).mono ?_; rintro e w' ⟨rfl, rfl⟩)
          try rw [Exit.noGoto_ret]
          go_ret2
          exact post_none HA.out.below
        · have HP := Lib.hid hp
          rw [hp] at hd
          have HD := Lib.hid ((if_pos rfl).symm.trans hd)
          clear hd hp hcv
          go_wp2_with (first | (go_at_call 50; refine (printable_is true _ _ HP.out).mono ?_; rintro e w' ⟨rfl, rfl⟩) | (at_builtin; refine wpList_append_own _ rfl _ _ 25 rfl w.heap.size 5 i5 (.int .u8 0) 1 1 Tryd.underlying25 hi5 hz50 hz51 hz52 rfl (by decide) u5 f.length (f.map byteV) rfl (HA.out.field.alloc _) ⟨wr.heap.size, 0, none⟩ 1 1 [byteV s[k]] rfl rfl ?g1 ?g2 ?g3 ?g4 ?g5 ?_; (case g1 => exact cell_one_new _ _ _); (case g2 => simp [Value.oneCell', byteV]); (case g3 => have := HA.out.short; unfold maxLen; omega); (case g4 => have := HA.out.short; omega); (case g5 => have := HA.out.below.size; simp; omega); intro v' w1 hown' hgrow _; have HO := Lib.hid hown'; have HG := Lib.hid hgrow; clear hown' hgrow))
          go_roundw
          case rel => exact ⟨k + 1, out, f ++ [s[k]], ins, true, by omega, by go_num, rfl, rfl, HA.out.byte _ HD.out HO.out HG.out⟩
          case measure => simp [intOf]; omega
    · have hd := HA.out.rest
      rw [drop_end s k (by omega)] at hd
      cases quo
      · have hd : some (if ins then out ++ [f] else out) = R := hd
        cases ins
        · have HD := Lib.hid hd
          clear hd hcv
          go_wp2
          try rw [Exit.noGoto_ret]
          go_ret2
          exact post_some out HD.out.symm HA.out.outs HA.out.below
        · have HD := Lib.hid hd
          clear hd
          go_wp2_with (at_builtin; refine wpList_append_own _ rfl _ _ 31 rfl w.heap.size 9 i9 (.string ⟨#[]⟩) 1 16 Tryd.underlying31 hi9 hz90 hz91 hz92 rfl (by decide) u4 out.length (out.map strV) rfl (HA.out.outs.alloc _) ⟨wr.heap.size, 0, none⟩ 1 1 [strV f] rfl rfl ?g1 ?g2 ?g3 ?g4 ?g5 ?_; (case g1 => exact cell_one_new _ _ _); (case g2 => simp [Value.oneCell', strV]); (case g3 => have := HA.out.few; unfold maxLen; omega); (case g4 => have := HA.out.few; omega); (case g5 => have := HA.out.below.size; simp; omega); intro v' w1 hown' hgrow _; have HO := Lib.hid hown'; have HG := Lib.hid hgrow; clear hown' hgrow)
          try rw [Exit.noGoto_ret]
          go_ret2
          exact post_some (out ++ [f]) HD.out.symm (HA.out.last HO.out HG.out).1 (HA.out.last HO.out HG.out).2
      · have hn : R = none := hd.symm
        subst hn
        clear hd hcv
        go_wp2
        try rw [Exit.noGoto_ret]
        go_ret2
        exact post_none HA.out.below

theorem fields_any (s : ByteArray) (hs : s.size ≤ maxLen) (w : World) :
    Calls Tryd.prog 34 #[.string s] w fun e w' => ∃ v : Value, e = .returned (.tuple #[v, .int .i64 (fieldsE s.data.toList)]) ∧
      w'.ownsRow w.heap.size 9 1 v (fieldsL s.data.toList).length ((fieldsL s.data.toList).map strV) ∧ Below w.heap.size w w' := by
  unfold maxLen at hs
  by_cases hbig : 300 < s.size
  · have e1 : fieldsE s.data.toList = 6 := by unfold fieldsE; rw [if_pos (by rw [len_eq]; exact hbig)]
    have e2 : fieldsL s.data.toList = [] := by unfold fieldsL; rw [if_pos (by rw [len_eq]; exact hbig)]
    rw [e1, e2]
    have hfin : ∃ v : Value, Ending.returned (.tuple #[.slice none 0 0, .int .i64 6]) = .returned (.tuple #[v, .int .i64 6]) ∧ w.ownsRow w.heap.size 9 1 v ([] : List (List UInt8)).length (([] : List (List UInt8)).map strV) ∧ Below w.heap.size w w :=
      ⟨_, rfl, World.ownsRow_nil _ _ _ _, Below.refl _ _⟩
    have HF := Lib.hid hfin
    clear e1 e2 hfin
    go_enter Tryd.func34, Tryd.ntmps34
    go_wp2
    go_step3
    go_wp2
    try rw [Exit.noGoto_ret]
    go_ret2
    exact HF.out
  · refine (fields_go s (by omega) _ rfl w).mono fun e w' h => ?_
    unfold fieldsE fieldsL
    rw [if_neg (by rw [len_eq]; exact hbig), if_neg (by rw [len_eq]; exact hbig)]
    exact h
end Go.Proofs.YticmkjcaekhgpaaDoor.Lex
