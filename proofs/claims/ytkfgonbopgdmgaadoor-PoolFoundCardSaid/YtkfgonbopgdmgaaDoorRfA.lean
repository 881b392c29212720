/- The reference's pools (analemmaref39): stands, place. -/
import Derived.Test.YtkfgonbopgdmgaaDoorAbQ
namespace Go.Proofs.YtkfgonbopgdmgaaDoor.Px
open Go.RowKit
open Po St

theorem bs_at {l : List UInt8} {i : Nat} {x : UInt8} (h : l[i]? = some x) : i < (bs l).size := (List.getElem?_eq_some_iff.1 h).1
set_option maxHeartbeats 2000000 in
theorem stands_any (s : List UInt8) (hs : s.length ≤ 1000000000) (w : World) : Calls Tryd.prog 45 #[.string (bs s)] w fun e w' => e = .returned (.bool (!(badB s))) ∧ w = w' := by
  obtain ⟨n, hn⟩ : ∃ n, (bs s).size = n := ⟨_, rfl⟩
  have hn2 : n ≤ 1000000000 := by rw [← hn]; exact hs
  have HN := Lib.hid hn
  go_enter Tryd.func45, Tryd.ntmps45
  go_wp2_with fail
  go_loopw [3] (fun v3 wr => ∃ i : Nat, i ≤ n ∧ v3 = .int .i64 (i : Int) ∧ (s.take i).contains 0 = false ∧ w = wr) (fun v3 _ => n - (intOf v3).toNat)
  case atStart => exact ⟨0, by omega, rfl, rfl, rfl⟩
  case round =>
    obtain ⟨i, hi, rfl, hno, rfl⟩ := hrel
    have HNO := Lib.hid hno
    clear hno
    by_cases hlt : i < n
    · have hlt2 : (i : Int) < ((bs s).size : Int) := by omega
      have hltn : i < (bs s).size := by omega
      obtain ⟨x, hx⟩ : ∃ x, s[i]? = some x := ⟨_, List.getElem?_eq_getElem (by rw [hn.symm] at hlt; exact hlt)⟩
      have hbx : (bs s)[i] = x := by
        have := List.getElem?_eq_some_iff.1 hx
        obtain ⟨_, h2⟩ := this
        exact h2
      have ht := Lib.hid (show (s.take (i + 1)).contains 0 = decide (0 = x) by rw [List.take_add_one, hx, List.contains_append, HNO.out]; simp)
      by_cases h0 : x = 0
      · have hq : (((bs s)[i].toNat : Int) == 0) = true := by rw [hbx, h0]; rfl
        have hb := Lib.hid (show badB s = true by
          unfold badB
          rw [List.contains_iff_mem.2 (by rw [← h0]; exact List.mem_of_getElem? hx), Bool.or_true])
        clear hx hbx ht h0
        go_wp2_with fail
        refine bodyPost_ret (v := .bool false) (by simp [results, Tryd.results45, go_sem]) rfl ⟨?_, rfl⟩
        rw [hb.out]
        rfl
      · have hq : (((bs s)[i].toNat : Int) == 0) = false := by
          rw [hbx, beq_eq_false_iff_ne]
          intro e
          apply h0
          have e2 : x.toNat = 0 := by omega
          exact UInt8.toNat_inj.1 e2
        have hf := Lib.hid (show (s.take (i + 1)).contains 0 = false by rw [ht.out]; exact decide_eq_false (fun e => h0 e.symm))
        clear hx hbx ht h0
        go_wp2_with fail
        go_roundw
        case rel => exact ⟨i + 1, by omega, by go_num, hf.out, (by first | trivial | rfl)⟩
        case measure => simp [intOf]; omega
    · obtain rfl : i = n := by omega
      have hLt : s.take i = s := List.take_of_length_le (by have : s.length = i := HN.out; omega)
      have hno := HNO.out
      rw [hLt] at hno
      cases s with
      | nil =>
        obtain ⟨S, hS⟩ : ∃ S, bs ([] : List UInt8) = S := ⟨_, rfl⟩
        have hs0 : S = ⟨#[]⟩ := hS.symm
        subst hs0
        clear HN hn
        go_wp2_with fail
        exact bodyPost_ret (v := .bool false) (by simp [results, Tryd.results45, go_sem]) rfl ⟨rfl, rfl⟩
      | cons x r =>
        have hne : (bs (x :: r)).toList.isEmpty = false := by
          show (ByteArray.mk (x :: r).toArray).toList.isEmpty = false
          rw [ByteArray.toList_mk]
          rfl
        have hb := Lib.hid (show badB (x :: r) = false by unfold badB; rw [hno]; rfl)
        clear hno HNO
        go_wp2_with fail
        refine bodyPost_ret (v := .bool true) (by simp [results, Tryd.results45, go_sem]) rfl ⟨?_, rfl⟩
        rw [hb.out]
        rfl
theorem bs_ext {a b : ByteArray} (h : a.data.toList = b.data.toList) : a = b := by
  obtain ⟨⟨a⟩⟩ := a
  obtain ⟨⟨b⟩⟩ := b
  simpa using h
theorem piece_is (p : List UInt8) (i j : Nat) : ((bs p).extract i j).data.toList = (p.drop i).take (j - i) := by
  rw [ByteArray.data_extract, Array.toList_extract, List.extract_eq_take_drop]
  rfl
set_option maxHeartbeats 2000000 in
theorem place_any (p s : List UInt8) (hp : p.length ≤ 1000000000) (hs : s.length ≤ 1000000000) (W : World) : Calls Tryd.prog 46 #[.string (bs p), .string (bs s)] W fun e w' => e = .returned (.int .i64 (Lib.index p (w s))) ∧ W = w' := by
  obtain ⟨S, hS⟩ : ∃ S, bs s = S := ⟨_, rfl⟩
  have hcat : ¬ 9223372036854775807 < S.size + 1 := by rw [← hS]; show ¬ _ < s.length + 1; omega
  obtain ⟨X, hX⟩ : ∃ X, S ++ ⟨#[0]⟩ = X := ⟨_, rfl⟩
  have hXw : X = bs (w s) := by rw [← hX, ← hS]; rfl
  have hxs : X.size = s.length + 1 := by rw [hXw]; show (w s).length = _; exact w_len s
  obtain ⟨n, hn⟩ : ∃ n, (bs p).size = n := ⟨_, rfl⟩
  have hnp : n = p.length := hn.symm
  have HXw := Lib.hid hXw
  have hl1 : X.size ≤ 1000000001 ∧ 1 ≤ X.size := by omega
  obtain ⟨hl1, hl2⟩ := hl1
  have hn2 : n ≤ 1000000000 := by omega
  have HXS := Lib.hid (And.intro hxs hnp)
  rw [hS]
  clear hS hXw hxs hnp
  go_enter Tryd.func46, Tryd.ntmps46
  go_wp2_with fail
  go_loopw [6] (fun v6 wr => ∃ i : Nat, i ≤ n + 1 ∧ v6 = .int .i64 (i : Int) ∧ (∀ j, j < i → Lib.occAt p (w s) j = false) ∧ W = wr) (fun v6 _ => n + 1 - (intOf v6).toNat)
  case atStart => exact ⟨0, by omega, rfl, fun j hj => absurd hj (Nat.not_lt_zero _), rfl⟩
  case round =>
    obtain ⟨i, hi, rfl, hno, rfl⟩ := hrel
    have HNO := Lib.hid hno
    clear hno hX hcat
    by_cases hlt : i + X.size ≤ n
    · have h1 : (i : Int) + (X.size : Int) ≤ (n : Int) := by omega
      have hq : (((bs p).extract i (i + X.size)).toList == X.toList) = Lib.occAt p (w s) i := by
        rw [ByteArray.toList_eq, ByteArray.toList_eq, piece_is, HXw.out, show (bs (w s)).data.toList = w s from rfl, show i + (bs (w s)).size - i = (w s).length by rw [Nat.add_sub_cancel_left]; rfl]
        unfold Lib.occAt
        rw [Bool.eq_iff_iff, beq_iff_eq, List.isPrefixOf_iff_prefix, List.prefix_iff_eq_take]
        exact ⟨fun e => e.symm, fun e => e.symm⟩
      have HO := Lib.hid (show ∀ o, Lib.occAt p (w s) i = o → o = true → Lib.index p (w s) = (i : Int) from fun o e e2 => Lib.index_first (by have := HXS.out; omega) (e.trans e2) (fun j hj => HNO.out j hj))
      obtain ⟨o, ho⟩ : ∃ o, Lib.occAt p (w s) i = o := ⟨_, rfl⟩
      rw [ho] at hq
      have HOo := Lib.hid ho
      clear ho
      cases o
      · go_wp2_with fail
        go_roundw
        case rel =>
          refine ⟨i + 1, by omega, by go_num, fun j hj => ?_, (by first | trivial | rfl)⟩
          by_cases e : j = i
          · rw [e]; exact HOo.out
          · exact HNO.out j (by omega)
        case measure => simp [intOf]; omega
      · have hx := Lib.hid (HO.out true HOo.out rfl)
        go_wp2_with fail
        refine bodyPost_ret (v := .int .i64 (i : Int)) (by simp [results, Tryd.results46, go_sem]) rfl ⟨?_, rfl⟩
        rw [hx.out]
    · have h1 : ¬ ((i : Int) + (X.size : Int) ≤ (n : Int)) := by omega
      have hx := Lib.hid (show Lib.index p (w s) = -1 from Lib.index_none (fun j hj => by
        by_cases e : j < i
        · exact HNO.out j e
        · cases ho : Lib.occAt p (w s) j with
          | false => rfl
          | true =>
            have := occ_len ho hj
            rw [w_len] at this
            have := HXS.out
            omega))
      go_wp2_with fail
      refine bodyPost_ret (v := .int .i64 (-1)) (by simp [results, Tryd.results46, go_sem]) rfl ⟨?_, rfl⟩
      rw [hx.out]
end Go.Proofs.YtkfgonbopgdmgaaDoor.Px
