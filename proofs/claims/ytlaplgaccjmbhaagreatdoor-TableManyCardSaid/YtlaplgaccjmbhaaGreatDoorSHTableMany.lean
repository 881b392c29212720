/- The law TableMany: the walk. The law TableMany returns true for every two numbers, and its tied card holds; no condition beyond the row itself. -/
import Derived.Test.YtlaplgaccjmbhaaGreatDoorSG26
import Derived.Test.YtlaplgaccjmbhaaGreatDoorSG27
import Derived.Test.YtlaplgaccjmbhaaGreatDoorSG7
import Derived.Laws.IdiomStrings
import Derived.Test.YtlaplgaccjmbhaaGreatDoorSG13
import Derived.Test.YtlaplgaccjmbhaaGreatDoorSG14
namespace Go.Proofs.YtlaplgaccjmbhaaGreatDoor.Px
open Go.RowKit
open Civ Tb
theorem two_bytes (X : World) (b q r : Nat) (hq : q < 100) (hr : r < 100) (h : X.heap[b]? = some (.cells #[.int .u8 (48 + (q : Int)), .int .u8 (48 + (r : Int))] 5 (0, 0))) :
    (convert 39 9 (.slice (some ⟨b, 0, none⟩) 2 2)).run Tryz.prog X = .ok (.string ⟨#[UInt8.ofNat (48 + q), UInt8.ofNat (48 + r)]⟩) X := by
  have e : ∀ n, n < 100 → ((UInt8.ofNat (48 + n)).toNat : Int) = 48 + (n : Int) := fun n hn => by rw [UInt8.toNat_ofNat_of_lt' (by show 48 + n < 256; omega)]; omega
  refine run_convert_bytes_back X 39 9 5 ⟨b, 0, none⟩ 2 [UInt8.ofNat (48 + q), UInt8.ofNat (48 + r)] Tryz.underlying39 Tryz.underlying5 Tryz.underlying9 (fun j hj => ?_)
  rw [WideShapes.add_plain, Nat.zero_add]
  match j, hj with
  | 0, _ => rw [List.getElem_cons_zero, e q hq]; exact cells_at h 0
  | 1, _ => rw [List.getElem_cons_succ, List.getElem_cons_zero, e r hr]; exact cells_at h 1
theorem many_snoc (m i : Nat) {a : Nat} (h : i % m = a) : ((List.range (i + 1)).map (tyM m)).flatMap Lc.cells = ((List.range i).map (tyM m)).flatMap Lc.cells ++ [.int .i64 (i : Int), .bool false, .string (⟨#[65]⟩ ++ ⟨#[UInt8.ofNat (48 + a / 10), UInt8.ofNat (48 + a % 10)]⟩ ++ ⟨#[66]⟩)] := by
  subst h
  rw [List.range_succ, List.map_append, List.map_singleton, List.flatMap_append]
  rfl
theorem manyt_snoc (i : Nat) : ((List.range (i + 1)).map trM).flatMap Tr.cells = ((List.range i).map trM).flatMap Tr.cells ++ [.int .i64 ((i + 1 : Nat) : Int), .int .i64 ((i + 1 : Nat) : Int)] := by
  rw [List.range_succ, List.map_append, List.map_singleton, List.flatMap_append]
  rfl
theorem many_fit {n m : Nat} (hm : 0 < m) (hm1 : m ≤ 55) (hn1 : n ≤ 300) : (∀ l ∈ (manyT n m).types, Lc.Fit l) ∧ (∀ t ∈ (manyT n m).trans, Tr.Fit t) := by
  refine ⟨fun l hl => ?_, fun t ht => ?_⟩
  · obtain ⟨_, h4⟩ := (many_types (n := n) hm hm1 hn1).1 l hl
    obtain ⟨i, hi, rfl⟩ := List.mem_map.1 hl
    have hi := List.mem_range.1 hi
    refine ⟨wf_64 ?_, by unfold maxLen; omega⟩
    unfold tyM
    dsimp only
    omega
  · obtain ⟨i, hi, rfl⟩ := List.mem_map.1 ht
    have hi := List.mem_range.1 hi
    unfold trM
    exact ⟨wf_64 (by dsimp only; omega), wf_64 (by dsimp only; omega)⟩
set_option maxHeartbeats 16000000 in
set_option maxRecDepth 100000 in
theorem tableMany_cells (more ab : Int) (n0 : 0 ≤ more) (n1 : more ≤ 255) (b0 : 0 ≤ ab) (b1 : ab ≤ 255) (W : World) (hE : EnvAt W) :
    Calls Tryz.prog 12 #[.int .u8 more, .int .u8 ab] W fun e w' => e = .returned (.bool true) ∧ Below W.heap.size W w' := by
  obtain ⟨p, hp⟩ : ∃ r, more % 4 = r := ⟨_, rfl⟩
  obtain ⟨q, hq⟩ : ∃ r, ab % 8 = r := ⟨_, rfl⟩
  obtain ⟨n, hn⟩ : ∃ n : Nat, 253 + p - 1 = (n : Int) := ⟨(253 + p - 1).toNat, by omega⟩
  obtain ⟨m, hm⟩ : ∃ n : Nat, 50 + q - 2 = (n : Int) := ⟨(50 + q - 2).toNat, by omega⟩
  have hn2 : 252 ≤ n ∧ n ≤ 255 := by omega
  have hm2 : 48 ≤ m ∧ m ≤ 55 := by omega
  have f1 : IntKind.i64.wrap (253 + p) = 253 + p := IntWalk.i64_in _ (by omega)
  have f2 : IntKind.i64.wrap (253 + p - 1) = (n : Int) := by rw [hn]; exact IntWalk.i64_in _ (by omega)
  have f3 : IntKind.i64.wrap (50 + q) = 50 + q := IntWalk.i64_in _ (by omega)
  have f4 : IntKind.i64.wrap (50 + q - 2) = (m : Int) := by rw [hm]; exact IntWalk.i64_in _ (by omega)
  have f5 : IntKind.i64.wrap (5 * (m : Int)) = 5 * (m : Int) := IntWalk.i64_in _ (by omega)
  have HE := Lib.hid hE
  have CW := Lib.hid (fun w hE => works40_any w hE)
  have hfit := many_fit (n := n) (m := m) (by omega) hm2.2 (by omega)
  have CC := Lib.hid (fun tv rv w h hE => tcheck_any (manyT n m) tv rv (bs gmtZ) w h hE)
  rw [many_check (by omega) hn2.2 (by omega) hm2.2] at CC
  have HFit := Lib.hid hfit
  have HN2 := Lib.hid hn2
  have HM2 := Lib.hid hm2
  have hM0 : ¬ (m : Int) = 0 := by omega
  have hM0n : ¬ m = 0 := by omega
  have hM0b : ((m : Int) == 0) = false := by simp; omega
  obtain ⟨j0, hj, hy0, hy1, hy2⟩ := info_parts infoTr
  obtain ⟨i0, hi, hz0, hz1, hz2⟩ := info_parts infoLc
  have K0 := Lib.hid (((Kp.start W).alloc (.cells #[.slice none 0 0, .slice none 0 0, .string ⟨#[71, 77, 84, 48]⟩] 25)).fresh 28 3)
  have T0 := Lib.hid (show ∃ v, Kp [(W.heap.size, .cells #[v, .slice none 0 0, .string ⟨#[71, 77, 84, 48]⟩] 25 (0, 0))] [⟨v, 28, 3, 0, ((List.range 0).map (tyM m)).flatMap Lc.cells⟩] W _ from ⟨_, K0.out⟩)
  clear hE hn2 hm2 hfit hn hm K0
  go_enter Tryz.func12, Tryz.ntmps12
  go_wp2_with fail
  go_loopw [8, 9] (fun v8 _ wr => ∃ i : Nat, i ≤ n ∧ v8 = .int .i64 i ∧ ∃ v, Kp [(W.heap.size, .cells #[v, .slice none 0 0, .string ⟨#[71, 77, 84, 48]⟩] 25 (0, 0))] [⟨v, 28, 3, i, ((List.range i).map (tyM m)).flatMap Lc.cells⟩] W wr) (fun v8 _ _ => n - (intOf v8).toNat)
  case atStart => exact ⟨0, by omega, rfl, T0.out⟩
  case round =>
    obtain ⟨i, hi1, rfl, v, hK⟩ := hrel
    obtain ⟨ua, uc, rfl⟩ : ∃ a c, v = .slice a i c := own_slice (hK.row 0 rfl)
    have HK := Lib.hid hK
    clear hK T0
    by_cases hlt : i < n
    · have j1 : (i : Int) < (n : Int) := by omega
      obtain ⟨a, ha⟩ : ∃ a, i % m = a := ⟨_, rfl⟩
      have ham : a < m := by rw [← ha]; exact Nat.mod_lt _ (by omega)
      have ha99 : a < 55 := by have := HM2.out; omega
      obtain ⟨s, hs⟩ : ∃ s, a / 10 = s := ⟨_, rfl⟩
      obtain ⟨r, hr⟩ : ∃ s, a % 10 = s := ⟨_, rfl⟩
      have hs9 : s < 10 := by omega
      have hr9 : r < 10 := by omega
      have hnext := many_snoc m i ha
      rw [hs, hr] at hnext
      have g1 : (i : Int) % (m : Int) = (a : Int) := by rw [← ha]; simp
      have g2 : (i : Int).tmod (m : Int) = (a : Int) := by rw [Int.tmod_eq_emod_of_nonneg (by omega)]; exact g1
      have g3 : (a : Int) / 10 = (s : Int) := by omega
      have g4 : (a : Int).tdiv 10 = (s : Int) := by rw [Int.tdiv_eq_ediv_of_nonneg (by omega)]; exact g3
      have g5 : (a : Int) % 10 = (r : Int) := by omega
      have g6 : (a : Int).tmod 10 = (r : Int) := by rw [Int.tmod_eq_emod_of_nonneg (by omega)]; exact g5
      have g7 : IntKind.u8.wrap (s : Int) = (s : Int) := IntWalk.u8_in _ (by omega)
      have g8 : IntKind.u8.wrap (r : Int) = (r : Int) := IntWalk.u8_in _ (by omega)
      have g9 : IntKind.u8.wrap (48 + (s : Int)) = 48 + (s : Int) := IntWalk.u8_in _ (by omega)
      have g10 : IntKind.u8.wrap (48 + (r : Int)) = 48 + (r : Int) := IntWalk.u8_in _ (by omega)
      have KA := Lib.hid (HK.out.alloc (.cells #[.int .u8 (48 + (s : Int)), .int .u8 (48 + (r : Int))] 5))
      have hcv := two_bytes _ wr.heap.size s r (by omega) (by omega) (KA.out.at 0 rfl)
      obtain ⟨c1, hc1⟩ : ∃ c, UInt8.ofNat (48 + s) = c := ⟨_, rfl⟩
      obtain ⟨c2, hc2⟩ : ∃ c, UInt8.ofNat (48 + r) = c := ⟨_, rfl⟩
      rw [hc1, hc2] at hcv hnext
      clear hc1 hc2
      have KB := Lib.hid (KA.out.drop.allocAt (wr.heap.size + 1) (by simp) (.cells #[.int .i64 (i : Int), .bool false, .string (⟨#[65]⟩ ++ ⟨#[c1, c2]⟩ ++ ⟨#[66]⟩)] 28))
      have z1 : ¬ 9223372036854775807 < (⟨#[65]⟩ : ByteArray).size + (⟨#[c1, c2]⟩ : ByteArray).size := by show ¬ 9223372036854775807 < 1 + 2; omega
      have z2 : ¬ 9223372036854775807 < ((⟨#[65]⟩ : ByteArray) ++ ⟨#[c1, c2]⟩).size + (⟨#[66]⟩ : ByteArray).size := by rw [ByteArray.size_append]; show ¬ 9223372036854775807 < 1 + 2 + 1; omega
      have q0 : wr.cell? ⟨W.heap.size, 0, none⟩ = some (.slice ua i uc) := cells_at (HK.out.at 0 rfl) 0
      have zz := HK.out.lt 0 rfl
      have HX := Lib.hid hnext
      have hi300 : i ≤ 300 := by have := HN2.out; omega
      clear ha ham ha99 hs hr hnext g1 g3 g5
      go_wp2_with (first
        | (at_builtin; refine wpList_append_own_at _ rfl (.tmp 32) (.tmp 47) 22 rfl W.heap.size 28 i0 (.agg #[.int .i64 0, .bool false, .string ⟨#[]⟩]) 3 32 Tryz.underlying22 hi hz0 hz1 hz2 rfl (by decide) _ i _ rfl (KB.out.row 0 rfl) ⟨wr.heap.size + 1, 0, none⟩ 1 1 [.int .i64 (i : Int), .bool false, .string (⟨#[65]⟩ ++ ⟨#[c1, c2]⟩ ++ ⟨#[66]⟩)] rfl rfl ?c1 ?c2 ?c3 ?c4 ?c5 ?_; (case c1 => exact World.news_of_block (KB.out.at 0 rfl)); (case c2 => simp [Value.oneCell']); (case c3 => unfold maxLen; omega); (case c4 => omega); (case c5 => exact KB.out.below.size); intro v' w1 hown hgrow _ hat; have hk1 := (KB.out.append hown hgrow hat).drop; obtain ⟨xa, xc, rfl⟩ : ∃ a c, v' = .slice a (i + 1) c := own_slice hown; have KC := Lib.hid hk1; obtain ⟨⟨x0, x1, x2⟩, s0', s1', s2'⟩ := row3 (KC.out.at 0 rfl); have z0 := KC.out.lt 0 rfl; clear hown hgrow hat hk1))
      have KD := Lib.hid (KC.out.set 0 rfl 0 (.slice xa (i + 1) xc) rfl)
      go_roundw
      case rel => exact ⟨i + 1, by omega, by go_num, _, by rw [HX.out]; exact KD.out⟩
      case measure => simp [intOf]; omega
    · obtain rfl : i = n := by omega
      have T1 := Lib.hid (show ∃ v, Kp [(W.heap.size, .cells #[.slice ua i uc, v, .string ⟨#[71, 77, 84, 48]⟩] 25 (0, 0))] [⟨v, 59, 2, 0, ((List.range 0).map trM).flatMap Tr.cells⟩, ⟨.slice ua i uc, 28, 3, i, ((List.range i).map (tyM m)).flatMap Lc.cells⟩] W wr from ⟨_, HK.out.fresh 59 2⟩)
      go_wp2_with fail
      go_loopw [10] (fun v10 wr => ∃ k : Nat, k + 1 ≤ i ∧ v10 = .int .i64 ((k : Int) + 1) ∧ ∃ v, Kp [(W.heap.size, .cells #[.slice ua i uc, v, .string ⟨#[71, 77, 84, 48]⟩] 25 (0, 0))] [⟨v, 59, 2, k, ((List.range k).map trM).flatMap Tr.cells⟩, ⟨.slice ua i uc, 28, 3, i, ((List.range i).map (tyM m)).flatMap Lc.cells⟩] W wr) (fun v10 _ => i - (intOf v10).toNat)
      case atStart => exact ⟨0, by have := HN2.out; omega, rfl, T1.out⟩
      case round =>
        obtain ⟨k, hk1, rfl, v, hK⟩ := hrel
        obtain ⟨va, vc, rfl⟩ : ∃ a c, v = .slice a k c := own_slice (hK.row 0 rfl)
        have HK2 := Lib.hid hK
        clear hK T1 HK
        have q1 : wr.cell? ⟨W.heap.size, 1, none⟩ = some (.slice va k vc) := cells_at (HK2.out.at 0 rfl) 1
        have zz := HK2.out.lt 0 rfl
        have hi300 : i ≤ 300 := by have := HN2.out; omega
        by_cases hlt : k + 1 < i
        · have j1 : (k : Int) + 1 < (i : Int) := by omega
          have j2 : IntKind.i64.wrap ((k : Int) + 1 + 1) = ((k + 1 : Nat) : Int) + 1 := by rw [IntWalk.i64_in _ (by omega)]; omega
          have KB := Lib.hid (HK2.out.alloc (.cells #[.int .i64 ((k : Int) + 1), .int .i64 ((k : Int) + 1)] 59))
          have HX := Lib.hid (manyt_snoc k)
          go_wp2_with (first
            | (at_builtin; refine wpList_append_own_at _ rfl (.tmp 56) (.tmp 60) 23 rfl W.heap.size 59 j0 (.agg #[.int .i64 0, .int .i64 0]) 2 16 Tryz.underlying23 hj hy0 hy1 hy2 rfl (by decide) _ k _ rfl (KB.out.row 0 rfl) ⟨wr.heap.size, 0, none⟩ 1 1 [.int .i64 ((k : Int) + 1), .int .i64 ((k : Int) + 1)] rfl rfl ?c1 ?c2 ?c3 ?c4 ?c5 ?_; (case c1 => exact World.news_of_block (KB.out.at 0 rfl)); (case c2 => simp [Value.oneCell']); (case c3 => unfold maxLen; omega); (case c4 => omega); (case c5 => exact KB.out.below.size); intro v' w1 hown hgrow _ hat; have hk1 := (KB.out.append hown hgrow hat).drop; obtain ⟨xa, xc, rfl⟩ : ∃ a c, v' = .slice a (k + 1) c := own_slice hown; have KC := Lib.hid hk1; obtain ⟨⟨x0, x1, x2⟩, s0', s1', s2'⟩ := row3 (KC.out.at 0 rfl); have z0 := KC.out.lt 0 rfl; clear hown hgrow hat hk1))
          have KD := Lib.hid (KC.out.set 0 rfl 1 (.slice xa (k + 1) xc) rfl)
          go_roundw
          case rel => exact ⟨k + 1, by omega, by go_num, _, by rw [HX.out]; exact KD.out⟩
          case measure => simp [intOf]; omega
        · obtain rfl : i = k + 1 := by omega
          have j1 : ¬ (k : Int) + 1 < ((k + 1 : Nat) : Int) := by omega
          obtain ⟨⟨x0, x1, x2⟩, _, _, _⟩ := row3 (HK2.out.at 0 rfl)
          have HT := Lib.hid (show TabV wr (.slice ua (k + 1) uc) (.slice va k vc) (bs gmtZ) (manyT (k + 1) m) from ⟨LcV.own (HK2.out.row 1 rfl) (by unfold manyT; simp), TrV.own (HK2.out.row 0 rfl) (by unfold manyT; simp), rfl, HFit.out.1, HFit.out.2⟩)
          clear q1
          by_cases h254 : 254 < k + 1
          · have e1 : (254 : Int) < ((k + 1 : Nat) : Int) := by omega
            rw [if_pos (.inl h254)] at CC
            clear h254
            go_wp2_with fail
            refine (CC.out _ _ _ HT.out (HE.out.keep HK2.out.below)).mono ?_
            rintro _ V ⟨rfl, hb⟩
            have K3 := Lib.hid (HK2.out.keep hb)
            clear hb
            go_wp2_with fail
            refine (CW.out _ (HE.out.keep K3.out.below)).mono ?_
            rintro _ V2 ⟨rfl, hb⟩
            have K4 := Lib.hid (K3.out.keep hb)
            clear hb
            go_wp2_with fail
            go_ret
            exact ⟨rfl, K4.out.below⟩
          · have e1 : ¬ (254 : Int) < ((k + 1 : Nat) : Int) := by omega
            by_cases h255 : 255 < 5 * m
            · have e2 : (255 : Int) < 5 * (m : Int) := by omega
              rw [if_pos (.inr h255)] at CC
              clear h254 h255
              go_wp2_with fail
              refine (CC.out _ _ _ HT.out (HE.out.keep HK2.out.below)).mono ?_
              rintro _ V ⟨rfl, hb⟩
              have K3 := Lib.hid (HK2.out.keep hb)
              clear hb
              go_wp2_with fail
              refine (CW.out _ (HE.out.keep K3.out.below)).mono ?_
              rintro _ V2 ⟨rfl, hb⟩
              have K4 := Lib.hid (K3.out.keep hb)
              clear hb
              go_wp2_with fail
              go_ret
              exact ⟨rfl, K4.out.below⟩
            · have e2 : ¬ (255 : Int) < 5 * (m : Int) := by omega
              rw [if_neg (fun h => h.elim h254 h255)] at CC
              clear h254 h255
              go_wp2_with fail
              refine (CC.out _ _ _ HT.out (HE.out.keep HK2.out.below)).mono ?_
              rintro _ V ⟨rfl, hb⟩
              have K3 := Lib.hid (HK2.out.keep hb)
              clear hb
              go_wp2_with fail
              refine (CW.out _ (HE.out.keep K3.out.below)).mono ?_
              rintro _ V2 ⟨rfl, hb⟩
              have K4 := Lib.hid (K3.out.keep hb)
              clear hb
              go_wp2_with fail
              go_ret
              exact ⟨rfl, K4.out.below⟩
end Go.Proofs.YtlaplgaccjmbhaaGreatDoor.Px
namespace Go.Proofs.YtlaplgaccjmbhaaGreatDoor.Px
open Go.RowKit
open Civ Tb
theorem tableMany_walk (n : Int) (hn : (Lit.int .u8 n).wf = true) (m : Int) (hm : (Lit.int .u8 m).wf = true) (W : World) (hE : EnvAt W) :
    Calls Tryz.prog 12 #[.int .u8 n, .int .u8 m] W fun e w' => e = .returned (.bool true) ∧ Below W.heap.size W w' :=
  tableMany_cells n m (wf_u8 hn).1 (wf_u8 hn).2 (wf_u8 hm).1 (wf_u8 hm).2 W hE
end Go.Proofs.YtlaplgaccjmbhaaGreatDoor.Px
namespace Go.Proofs.YtlaplgaccjmbhaaGreatDoor
open Go.ChangeShapes Go.WideShapes Go.ChangeAt Go.RowKit
open Go.ChangeMaps (open_string)
namespace tableMany
theorem own : ownKnob Tryz.prog.godebug = none := by kernel_rfl
set_option maxRecDepth 100000 in
theorem lifted (os : Os) (started : os.Started) (H : Type) (enc : TypeId × Value → H) :
    ReturnsInHanded {} Tryz.checked os 12 .any (fun w args => (Rows.tableManySpec.pre enc Tryz.prog Tryz.f12 Rows.tableManyRow.domain false w args ∧ laidMetH Tryz.prog Rows.tableManyRow.laid w) ∧ sizedMet enc Tryz.prog Tryz.f12 (OpenSpec.ofChange Rows.tableManySpec) false w args)
      (Rows.tableManySpec.post enc Tryz.prog Tryz.f12 false true false false) := by
  refine returnsInHanded_of_change_and (C := Tryz.checked) (X := fun w _ => laidMetH Tryz.prog Rows.tableManyRow.laid w) (fun _ _ _ hh h => h.of_heap hh) own started (by kernel_rfl) Tryz.func12
    (ChangeSpec.witness_shaped (enc := enc) (C := Tryz.checked) (os := os) (X := fun w _ => laidMetH Tryz.prog Rows.tableManyRow.laid w) false ((World.doorLaid Tryz.prog 4000 os).layVars Tryz.prog [("unicode/utf8.first", Rows.laid_unicode_utf8_first)]) #[.int .u8 0, .int .u8 0] 8 (door_os os)
      (World.shaped_of_ZipB (by kernel_rfl) (by kernel_rfl)) (by kernel_rfl) (by kernel_rfl) (by kernel_rfl) (door_met os _)) ?_
  intro W base args ds gs before hval0 hW _ _ hL _
  have hval : ∀ (j : Nat) t v, Tryz.f12.params[j]? = some t → args[j]? = some v → Value.okWide Tryz.prog W .any base t v := hval0
  have hEnv : Px.EnvAt W := Px.env_of hL
  have hW' := hW
  obtain ⟨p, q, hA0, hV, rfl, _, _⟩ := hW
  have hA : DataW.TrodAll enc Tryz.prog W 0 (fun _ => true) true Tryz.f12.params.toList args.toList ds p := hA0
  rw [Tryz.params12] at hA hval
  obtain ⟨v0, vs0, d0, ds0, p0, q0, hargs, rfl, rfl, h0, r0⟩ := trodAll_cons hA
  obtain ⟨v1, vs1, d1, ds1, p1, q1, rfl, rfl, rfl, h1, r1⟩ := trodAll_cons r0
  obtain ⟨rfl, rfl, rfl⟩ := trodAll_nil r1
  obtain rfl : args = #[v0, v1] := by cases args; simp_all
  obtain ⟨rfl, rfl⟩ := trodVars_none hV
  obtain ⟨n0, rfl, rfl, rfl, hn0⟩ := open_int Tryz.underlying5 (hval 0 5 v0 rfl rfl) h0
  obtain ⟨n1, rfl, rfl, rfl, hn1⟩ := open_int Tryz.underlying5 (hval 1 5 v1 rfl rfl) h1
  refine (Px.tableMany_walk n0 hn0 n1 hn1 W hEnv).mono fun e W' ⟨he, hB⟩ => ?_
  subst he
  refine ⟨_, rfl, post_law (by kernel_rfl) ?_ rfl hW' rfl rfl Tryz.underlying4 hB⟩
  rw [Tryz.params12]
  intro t ht
  have hall : ([5, 5].all fun u => Tryz.prog.readableRec u && decide (u < Tryz.prog.types.size)) = true := by kernel_rfl
  have h1 := List.all_eq_true.1 hall t ht
  have h2 : Tryz.prog.readableRec t = true ∧ t < Tryz.prog.types.size := by simpa using h1
  exact h2
set_option maxHeartbeats 8000000 in
theorem facts : joinedFacts Tryz.pinned.checked.prog 12 Tryz.f12 Rows.tableManySpec Rows.tableManyRow = true := by
  simp only [joinedFacts, Bool.and_eq_true]
  and_intros
  all_goals (as_aux_lemma => kernel_rfl)
theorem named : Tryz.pinned.checked.prog.funcNamed Rows.tableManyRow.func = some 12 := by kernel_rfl
theorem said : Rows.TableManySaid :=
  OpenClaim.holds_of_wide 12 Tryz.f12 rfl rfl rfl rfl rfl rfl rfl ⟨rfl, rfl, rfl, rfl, rfl⟩ rfl rfl rfl rfl rfl named Tryz.func12 facts
    (of_decide_eq_true (by kernel_rfl)) (by unfold Func.isWrapper; first | (rw [if_pos (by decide +kernel)]; kernel_rfl) | (rw [if_neg (by decide +kernel)]; exact ⟨rfl, rfl⟩))
    (fun os started H enc _ => lifted os started H enc)
theorem plain (f : FuncId) (fn : Func) (hf : Tryz.pinned.checked.prog.funcNamed "analemma/analemmalaw40.TableMany" = some f) (hfn : Tryz.pinned.checked.prog.funcs[f]? = some fn) :
    true = Tryz.pinned.checked.prog.looks [] ∧ ∀ (j : Nat) t, fn.params[j]? = some t → Tryz.pinned.checked.prog.wantsStandIn t = false := by
  obtain rfl : f = 12 := Option.some.inj ((show Tryz.prog.funcNamed "analemma/analemmalaw40.TableMany" = some 12 by kernel_rfl).symm.trans hf) |>.symm
  obtain rfl : fn = Tryz.f12 := (Option.some.inj (Tryz.func12.symm.trans hfn)).symm
  refine ⟨by kernel_rfl, fun j t ht => ?_⟩
  rw [Tryz.params12] at ht
  have hm : t ∈ [5, 5] := by simpa using Array.mem_of_getElem? ht
  have hall : ([5, 5].all fun u => !Tryz.prog.wantsStandIn u) = true := by kernel_rfl
  exact (show Tryz.prog.wantsStandIn t = false by simpa using List.all_eq_true.1 hall t hm)
theorem card : Rows.TableManyCardSaid :=
  Claim7.holds_tied_plain_at .later [] _ _ _ _ said (fun _ h => by cases h) (by kernel_rfl) (fun _ h => by cases h) tableMany_row_tie rfl ⟨rfl, rfl⟩ (by kernel_rfl) rfl plain (by kernel_rfl)
end tableMany
#print axioms tableMany.card
end Go.Proofs.YtlaplgaccjmbhaaGreatDoor

