/- The reference's Join and bare, called with any slice of strings, return what joinS and joinE say; the world stays. -/
import Derived.Test.YtjdckmhlgcjdgaaDoorLxJ
namespace Go.Proofs.YtjdckmhlgcjdgaaDoor.Lx
open Go.RowKit
open Lex (strV bytesOf printB)

theorem bareB_at {p : List UInt8} (j : Nat) (hj : j < p.length) (h : (p.getD j 0).toNat = 32 ∨ (p.getD j 0).toNat = 35) : bareB p = false := by
  unfold bareB
  have : (p.all fun c => decide (c.toNat ≠ 32) && decide (c.toNat ≠ 35)) = false := by
    rw [List.all_eq_false]
    refine ⟨p[j], List.getElem_mem hj, ?_⟩
    rw [getD_lt hj] at h
    simp
    intro h1
    rcases h with h | h
    · exact absurd h h1
    · exact h
  rw [this]; rfl
theorem bareB_all {p : List UInt8} (h : ∀ j, j < p.length → (p.getD j 0).toNat ≠ 32 ∧ (p.getD j 0).toNat ≠ 35) : bareB p = !p.isEmpty := by
  unfold bareB
  have : (p.all fun c => decide (c.toNat ≠ 32) && decide (c.toNat ≠ 35)) = true := by
    rw [List.all_eq_true]
    intro c hc
    obtain ⟨j, hj, rfl⟩ := List.mem_iff_getElem.1 hc
    have := h j hj
    rw [getD_lt hj] at this
    simpa using this
  rw [this]; rfl

set_option maxHeartbeats 1000000 in
theorem bare_walk (x : ByteArray) (hx : x.size ≤ 4000000000) (w : World) :
    Calls Tryd.prog 39 #[.string x] w fun e w' => e = .returned (.bool (bareB x.data.toList)) ∧ w = w' := by
  go_enter Tryd.func39, Tryd.ntmps39
  go_wp2
  go_loop [3] (fun i => ∃ j : Nat, j ≤ x.size ∧ i = .int .i64 j ∧ Hid (∀ m, m < j → (x.data.toList.getD m 0).toNat ≠ 32 ∧ (x.data.toList.getD m 0).toNat ≠ 35)) (fun i => x.size - (intOf i).toNat)
  case atStart => exact ⟨0, Nat.zero_le _, rfl, Lib.hid (fun m hm => by omega)⟩
  case round =>
    obtain ⟨j, hj, rfl, HG⟩ := hrel
    by_cases hjl : j < x.size
    · have hat := at_byte x j hjl
      have hji : (j : Int) < (x.size : Int) := by omega
      by_cases c32 : x[j].toNat = 32
      · have HB := Lib.hid (bareB_at (p := x.data.toList) j (by rw [Lex.len_eq]; exact hjl) (by rw [hat]; exact .inl c32))
        have t32 : ((x[j].toNat : Int) == 32) = true := by rw [c32]; rfl
        clear hat c32
        go_wp2
        go_ret
        exact ⟨Lex.ret_bool HB.out.symm, rfl⟩
      · have t32 : ((x[j].toNat : Int) == 32) = false := by rw [beq_eq_false_iff_ne]; omega
        by_cases c35 : x[j].toNat = 35
        · have HB := Lib.hid (bareB_at (p := x.data.toList) j (by rw [Lex.len_eq]; exact hjl) (by rw [hat]; exact .inr c35))
          have t35 : ((x[j].toNat : Int) == 35) = true := by rw [c35]; rfl
          clear hat c32 c35
          go_wp2
          go_ret
          exact ⟨Lex.ret_bool HB.out.symm, rfl⟩
        · have HB := Lib.hid (show (x.data.toList.getD j 0).toNat ≠ 32 ∧ (x.data.toList.getD j 0).toNat ≠ 35 by rw [hat]; exact ⟨c32, c35⟩)
          have t35 : ((x[j].toNat : Int) == 35) = false := by rw [beq_eq_false_iff_ne]; omega
          clear hat c32 c35
          go_wp2
          go_round
          case rel => exact ⟨j + 1, by omega, by go_num, Lib.hid (fun m hm => by rcases (show m < j ∨ m = j by omega) with h | rfl; exact HG.out m h; exact HB.out)⟩
          case measure => simp [intOf]; omega
    · have hb := bareB_all (p := x.data.toList) (fun m hm => HG.out m (by rw [Lex.len_eq] at hm; omega))
      have hjx : j = x.size := by omega
      subst hjx
      by_cases h0 : x.size = 0
      · have hxe : x = ⟨#[]⟩ := bytesOf_eq (by rw [← List.length_eq_zero_iff, Lex.len_eq]; exact h0)
        subst hxe
        clear hb HG
        go_wp2
        go_ret
        exact ⟨rfl, rfl⟩
      · have hne := str_ne h0
        have HB := Lib.hid (show bareB x.data.toList = true by
          rw [hb, ← Lib.toList_data, hne]; rfl)
        clear hb HG h0
        go_wp2
        go_ret
        exact ⟨Lex.ret_bool HB.out.symm, rfl⟩
theorem bare_is (b : Bool) (x : ByteArray) (hx : x.size ≤ 4000000000) (h : bareB x.data.toList = b) (w : World) :
    Calls Tryd.prog 39 #[.string x] w fun e w' => e = .returned (.bool b) ∧ w = w' := by
  subst h; exact bare_walk x hx w

theorem step_list {F : List (List UInt8)} {k : Nat} {y z : ByteArray} (hk : k < F.length) (hy : y.data.toList = joinL (F.take k)) (hx : z.data.toList = (if k = 0 then [] else [32]) ++ quoteF (F.getD k [])) :
    (y ++ z).data.toList = joinL (F.take (k + 1)) := by
  rw [app_list, joinL_take F k hk, hy, hx, getD_lt hk]
  by_cases h0 : k = 0
  · subst h0; simp [joinL]
  · simp [h0]

set_option maxHeartbeats 8000000 in
set_option maxRecDepth 100000 in
theorem refJoin_any (F : List (List UInt8)) (v : Value) (w : World) (hv : StrsV w v F) (hl : ∀ p ∈ F, p.length ≤ 4000000000) :
    Calls Tryd.prog 21 #[v] w (JoinPost F w) := by
  obtain ⟨a, c, rfl, hc1, hc2, hc3⟩ := hv
  unfold maxLen at hc2
  have HV := Lib.hid (show StrsV w (.slice a F.length c) F from ⟨a, c, rfl, hc1, by unfold maxLen; exact hc2, hc3⟩)
  have HL := Lib.hid hl
  have HCELL := Lib.hid (show ∀ k, k < F.length → ∃ b o x, a = some ⟨b, o, none⟩ ∧ w.cell? ⟨b, o + k, none⟩ = some (.string x) ∧ x.data.toList = F.getD k [] ∧ x.size ≤ 4000000000 by
    intro k hk
    rcases hc3 with h | ⟨b, o, e, h⟩
    · rw [h] at hk; simp at hk
    · refine ⟨b, o, bytesOf (F.getD k []), e, h k hk, rfl, ?_⟩
      rw [bytesOf_size, getD_lt hk]
      exact hl _ (List.getElem_mem hk))
  clear hc3 hl
  go_enter Tryd.func21, Tryd.ntmps21
  go_wp2
  go_loop [5] (fun i => ∃ k : Nat, k ≤ F.length ∧ i = .int .i64 k ∧ Hid (∀ j, j < k → goodF (F.getD j []) = true)) (fun i => F.length - (intOf i).toNat)
  case atStart => exact ⟨0, Nat.zero_le _, rfl, Lib.hid (fun m hm => by omega)⟩
  case round =>
    obtain ⟨k, hk, rfl, HF⟩ := hrel
    by_cases hlt : k < F.length
    · obtain ⟨b, o, x, rfl, hcell, hxl, hxs⟩ := HCELL.out k hlt
      obtain ⟨p, hp⟩ : ∃ p, F.getD k [] = p := ⟨_, rfl⟩
      rw [hp] at hxl
      have HX := Lib.hid hxl
      have HP := Lib.hid hp
      clear hxl hp
      go_wp2
      go_loop [7] (fun i => ∃ j : Nat, j ≤ x.size ∧ i = .int .i64 j ∧ Hid (∀ m, m < j → goodB (p.getD m 0).toNat = true)) (fun i => x.size - (intOf i).toNat)
      case atStart => exact ⟨0, Nat.zero_le _, rfl, Lib.hid (fun m hm => by omega)⟩
      case round =>
        obtain ⟨j, hj, rfl, HG⟩ := hrel
        by_cases hjl : j < x.size
        · have hat := at_byte x j hjl
          rw [HX.out] at hat
          have hjp : j < p.length := by rw [← HX.out, Lex.len_eq]; exact hjl
          have hji : (j : Int) < (x.size : Int) := by omega
          by_cases hgb : goodB x[j].toNat = true
          · have HB := Lib.hid (show goodB (p.getD j 0).toNat = true by rw [hat]; exact hgb)
            have h3 : (32 : Int) ≤ (x[j].toNat : Int) ∧ (x[j].toNat : Int) ≤ 126 ∧ x[j].toNat ≠ 34 := by
              unfold goodB printB at hgb; simp at hgb; omega
            obtain ⟨h31, h32, h33⟩ := h3
            have t34 : ((x[j].toNat : Int) == 34) = false := by rw [beq_eq_false_iff_ne]; omega
            clear hat hgb h33
            go_wp2
            go_round
            case rel => exact ⟨j + 1, by omega, by go_num, Lib.hid (fun m hm => by rcases (show m < j ∨ m = j by omega) with h | rfl; exact HG.out m h; exact HB.out)⟩
            case measure => simp [intOf]; omega
          · have HB := Lib.hid (goodF_at j hjp (by rw [hat]; simpa using hgb))
            have h3 : (x[j].toNat : Int) < 32 ∨ ((32 : Int) ≤ (x[j].toNat : Int) ∧ (126 : Int) < (x[j].toNat : Int)) ∨ ((32 : Int) ≤ (x[j].toNat : Int) ∧ (x[j].toNat : Int) ≤ 126 ∧ x[j].toNat = 34) := by
              unfold goodB printB at hgb; simp at hgb; omega
            clear hat hgb
            rcases h3 with h3 | ⟨h3, h4⟩ | ⟨h3, h4, h5⟩
            · go_wp2
              go_ret2
              exact join_bad hlt (by rw [HP.out]; exact HB.out) (Below.refl _ _)
            · go_wp2
              go_ret2
              exact join_bad hlt (by rw [HP.out]; exact HB.out) (Below.refl _ _)
            · have t34 : ((x[j].toNat : Int) == 34) = true := by rw [h5]; rfl
              clear h5
              go_wp2
              go_ret2
              exact join_bad hlt (by rw [HP.out]; exact HB.out) (Below.refl _ _)
        · have hgood : goodF p = true := goodF_all (fun m hm => HG.out m (by rw [← HX.out, Lex.len_eq] at hm; omega))
          have HGD := Lib.hid hgood
          have hjx : j = x.size := by omega
          subst hjx
          clear hgood HG
          go_wp2
          go_round
          case rel => exact ⟨k + 1, by omega, by go_num, Lib.hid (fun m hm => by rcases (show m < k ∨ m = k by omega) with h | rfl; exact HF.out m h; rw [HP.out]; exact HGD.out)⟩
          case measure => simp [intOf]; omega
    · have hke : k = F.length := by omega
      subst hke
      have HALL := Lib.hid (all_good HF.out)
      clear HF
      go_wp2
      go_loop [4, 8] (fun out i => ∃ (k : Nat) (y : ByteArray), k ≤ F.length ∧ i = .int .i64 k ∧ out = .string y ∧ y.size ≤ 5000000000 ∧ Hid (y.data.toList = joinL (F.take k))) (fun _ i => F.length - (intOf i).toNat)
      case atStart => exact ⟨0, ⟨#[]⟩, Nat.zero_le _, rfl, rfl, Nat.zero_le _, Lib.hid rfl⟩
      case round =>
        obtain ⟨k, y, hk, rfl, rfl, hys, HY⟩ := hrel
        by_cases hgo : k < F.length ∧ y.size ≤ 300
        · obtain ⟨hlt2, hy3⟩ := hgo
          obtain ⟨b, o, x, rfl, hcell, hxl, hxs⟩ := HCELL.out k hlt2
          have hy3i : (y.size : Int) ≤ 300 := by omega
          have HX := Lib.hid hxl
          obtain ⟨bb, hbb⟩ : ∃ bb, bareB x.data.toList = bb := ⟨_, rfl⟩
          have CB := Lib.hid (bare_is bb x hxs hbb w)
          have HBB := Lib.hid hbb
          clear hxl hbb
          by_cases hk0 : k = 0
          · subst hk0
            have hcell0 : w.cell? ⟨b, o, none⟩ = some (.string x) := hcell
            clear hcell
            cases bb
            · have hc1 : ¬ 9223372036854775807 < 1 + x.size := by omega
              have hc2 : ¬ 9223372036854775807 < 1 + x.size + 1 := by omega
              have hc3 : ¬ 9223372036854775807 < y.size + (1 + x.size + 1) := by omega
              go_wp2_with fail
              refine CB.out.mono ?_
              rintro e V1 ⟨rfl, rfl⟩
              go_wp2
              go_round
              case rel => exact ⟨1, _, by omega, by first | go_num | rfl, rfl, by rw [ByteArray.size_append, quote_size]; omega, Lib.hid (step_list hlt2 HY.out (by rw [← HX.out]; unfold quoteF; rw [HBB.out, app_list, app_list]; simp))⟩
              case measure => simp [intOf]; omega
            · have hc3 : ¬ 9223372036854775807 < y.size + x.size := by omega
              go_wp2_with fail
              refine CB.out.mono ?_
              rintro e V1 ⟨rfl, rfl⟩
              go_wp2
              go_round
              case rel => exact ⟨1, _, by omega, by first | go_num | rfl, rfl, by rw [ByteArray.size_append]; omega, Lib.hid (step_list hlt2 HY.out (by rw [← HX.out]; unfold quoteF; rw [HBB.out]; simp))⟩
              case measure => simp [intOf]; omega
          · have hk0i : (0 : Int) < (k : Int) := by omega
            have hk0n : 0 < k := by omega
            cases bb
            · have hc1 : ¬ 9223372036854775807 < 1 + x.size := by omega
              have hc2 : ¬ 9223372036854775807 < 1 + x.size + 1 := by omega
              have hc4 : ¬ 9223372036854775807 < 1 + (1 + x.size + 1) := by omega
              have hc3 : ¬ 9223372036854775807 < y.size + (1 + (1 + x.size + 1)) := by omega
              have HK0 := Lib.hid hk0
              clear hk0
              go_wp2_with fail
              refine CB.out.mono ?_
              rintro e V1 ⟨rfl, rfl⟩
              go_wp2
              go_round
              case rel => exact ⟨k + 1, _, by omega, by go_num, rfl, by rw [ByteArray.size_append, ByteArray.size_append, quote_size, show (⟨#[32]⟩ : ByteArray).size = 1 from rfl]; omega, Lib.hid (step_list hlt2 HY.out (by rw [← HX.out]; unfold quoteF; rw [HBB.out, app_list, app_list, app_list, if_neg HK0.out]; simp))⟩
              case measure => simp [intOf]; omega
            · have hc4 : ¬ 9223372036854775807 < 1 + x.size := by omega
              have hc3 : ¬ 9223372036854775807 < y.size + (1 + x.size) := by omega
              have HK0 := Lib.hid hk0
              clear hk0
              go_wp2_with fail
              refine CB.out.mono ?_
              rintro e V1 ⟨rfl, rfl⟩
              go_wp2
              go_round
              case rel => exact ⟨k + 1, _, by omega, by go_num, rfl, by rw [ByteArray.size_append, ByteArray.size_append, show (⟨#[32]⟩ : ByteArray).size = 1 from rfl]; omega, Lib.hid (step_list hlt2 HY.out (by rw [← HX.out]; unfold quoteF; rw [HBB.out, app_list, if_neg HK0.out]; simp))⟩
              case measure => simp [intOf]; omega
        · by_cases hy3 : y.size ≤ 300
          · have hke : k = F.length := by
              rcases Nat.lt_or_ge k F.length with h | h
              · exact absurd ⟨h, hy3⟩ hgo
              · omega
            subst hke
            have hy3i : (y.size : Int) ≤ 300 := by omega
            have hy' := HY.out
            rw [List.take_length] at hy'
            have HY2 := Lib.hid hy'
            clear hy' hgo
            go_wp2
            go_ret2
            exact join_ok HALL.out (by rw [← HY2.out, Lex.len_eq]; omega) HY2.out (Below.refl _ _)
          · have hy3i : (300 : Int) < (y.size : Int) := by omega
            have hlong : 300 < (joinL F).length := by
              have := joinL_le F k
              rw [← HY.out, Lex.len_eq] at this
              omega
            have HLONG := Lib.hid hlong
            clear hlong hgo
            by_cases hkl : k < F.length
            · go_wp2
              go_ret2
              exact join_long HALL.out HLONG.out (Below.refl _ _)
            · have hke : k = F.length := by omega
              subst hke
              go_wp2
              go_ret2
              exact join_long HALL.out HLONG.out (Below.refl _ _)
end Go.Proofs.YtjdckmhlgcjdgaaDoor.Lx
