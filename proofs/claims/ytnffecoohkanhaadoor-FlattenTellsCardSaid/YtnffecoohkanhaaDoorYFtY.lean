/- The reference's place (chapter 35). -/
import Derived.Test.YtnffecoohkanhaaDoorYFtT
import Derived.Test.YtnffecoohkanhaaDoorYFtC
import Derived.Deep.QuietTactic
import Derived.BigQuiet
namespace Go.Proofs.YtnffecoohkanhaaDoor.Px
open Go.RowKit
open Go.Maps (Keyed)
open Lk St

set_option maxHeartbeats 8000000 in
set_option maxRecDepth 100000 in
theorem place_any (L : List (List UInt8)) (i : Nat) (va : Value) (W : World) (hA : SlV W va 1 L.length (L.map svv)) (hi : i < L.length) (hmax : L.length ≤ 1000000) :
    Calls Tryd.prog 42 #[va, .int .i64 (i : Int)] W fun e w' => e = .returned (.int .i64 (plL L i : Int)) ∧ ∃ q, w' = W.drewN q := by
  have mixed : Tryd.prog.follows Departure.mixedOrders = true := by kernel_rfl
  obtain ⟨b, o, c, rfl, hc1, hc2, hb, hcell⟩ := hA.allA (by omega)
  unfold maxLen at hc2
  obtain ⟨x, hx⟩ : ∃ x, L.getD i [] = x := ⟨_, rfl⟩
  have hxi : L[i]? = some x := by rw [← hx, List.getD, List.getElem?_eq_getElem hi]; rfl
  have hx1 := hcell i (.string (bs x)) (by rw [List.getElem?_map, hxi]; rfl)
  have hpl : plL L i = cntL L i L.length x := by unfold plL; rw [hx]
  rw [hpl]
  obtain ⟨n, hn⟩ : ∃ n, L.length = n := ⟨_, rfl⟩
  rw [hn] at hi hc1 hmax ⊢
  have HN := Lib.hid hn
  have HC := Lib.hid hcell
  obtain ⟨t, ht⟩ : ∃ t, bs x = t := ⟨_, rfl⟩
  rw [ht] at hx1
  have HT := Lib.hid ht
  have HX1 := Lib.hid hx1
  have hcz := cnt_zero L i x
  have hcn : ∀ k, cntL L i k x ≤ 2 * k := fun k => by
    unfold cntL
    have h1 := List.countP_le_length (p := fun y => decide (y < x)) (l := L.take k)
    have h2 := List.countP_le_length (p := fun y => decide (y = x)) (l := L.take (min k i))
    rw [List.length_take] at h1 h2
    omega
  have HCZ := Lib.hid hcz
  have HCN := Lib.hid hcn
  clear hA hcell hx hxi hx1 hpl hn ht hcz hcn
  go_enter Tryd.func42, Tryd.ntmps42
  go_wp2_with fail
  go_loopw [5, 6] (fun n5 i6 wr => ∃ k : Nat, k ≤ n ∧ i6 = .int .i64 (k : Int) ∧ n5 = .int .i64 (cntL L i k x : Int) ∧ ∃ q, wr = W.drewN q) (fun _ i6 _ => n - (intOf i6).toNat)
  case atStart => exact ⟨0, by omega, rfl, by rw [HCZ.out]; rfl, 0, rfl⟩
  case round =>
    obtain ⟨k, hk', rfl, rfl, qd, rfl⟩ := hrel
    have hbw : b < (W.drewN qd).heap.size := hb
    by_cases hlt : k < n
    · obtain ⟨y, hy⟩ : ∃ y, L[k]? = some y := ⟨_, List.getElem?_eq_getElem (by rw [HN.out]; exact hlt)⟩
      have k0 : W.cell? ⟨b, o + k, none⟩ = some (.string (bs y)) := HC.out k (.string (bs y)) (by rw [List.getElem?_map, hy]; rfl)
      have k1 := HX1.out
      have HST := Lib.hid (cnt_step (i := i) (x := x) hy)
      obtain ⟨s, hs⟩ : ∃ s, bs y = s := ⟨_, rfl⟩
      rw [hs] at k0
      have hls := less_of hs HT.out
      have hse : s = t ↔ y = x := by
        rw [← hs, ← HT.out]
        constructor
        · intro e
          have e := congrArg (fun z : ByteArray => z.data.toList) e
          exact e
        · intro e
          rw [e]
      obtain ⟨cn, hcn⟩ : ∃ m, cntL L i k x = m := ⟨_, rfl⟩
      have hcb := HCN.out k
      rw [hcn] at HST hcb ⊢
      clear hcn hy hs
      by_cases h1 : y < x
      · rw [decide_eq_true h1] at hls
        have HS2 := Lib.hid (show cntL L i (k + 1) x = cn + 1 by rw [HST.out, if_pos (.inl h1)])
        clear h1 hse
        go_upto_region 5 with fail
        go_quiet (fail)
        go_wp2_with fail
        go_roundw
        case rel => exact ⟨k + 1, by omega, by go_num, by rw [HS2.out]; go_num, ⟨_, rfl⟩⟩
        case measure => simp [intOf]; omega
      · rw [decide_eq_false h1] at hls
        by_cases h2 : y = x
        · obtain rfl : s = t := hse.2 h2
          by_cases h3 : k < i
          · have HS2 := Lib.hid (show cntL L i (k + 1) x = cn + 1 by rw [HST.out, if_pos (.inr ⟨h2, h3⟩)])
            have h3i : (k : Int) < (i : Int) := by omega
            clear h1 h2 hse
            go_upto_region 5 with fail
            go_quiet (fail)
            go_wp2_with fail
            go_roundw
            case rel => exact ⟨k + 1, by omega, by go_num, by rw [HS2.out]; go_num, ⟨_, rfl⟩⟩
            case measure => simp [intOf]; omega
          · have HS2 := Lib.hid (show cntL L i (k + 1) x = cn by rw [HST.out, if_neg (fun q => q.elim h1 (fun q => h3 q.2))])
            have h3i : ¬ (k : Int) < (i : Int) := by omega
            clear h1 h2 hse
            go_upto_region 5 with fail
            go_quiet (fail)
            go_wp2_with fail
            go_roundw
            case rel => exact ⟨k + 1, by omega, by go_num, by rw [HS2.out], ⟨_, rfl⟩⟩
            case measure => simp [intOf]; omega
        · have hst : ¬ s = t := fun e => h2 (hse.1 e)
          have hst3 : (s.toList == t.toList) = false := by
            rw [beq_eq_false_iff_ne]
            exact fun e => hst (ba_eq e)
          clear hst
          have HS2 := Lib.hid (show cntL L i (k + 1) x = cn by rw [HST.out, if_neg (fun q => q.elim h1 (fun q => h2 q.1))])
          clear h1 h2 hse
          go_upto_region 5 with fail
          go_quiet (fail)
          go_wp2_with fail
          go_roundw
          case rel => exact ⟨k + 1, by omega, by go_num, by rw [HS2.out], ⟨_, rfl⟩⟩
          case measure => simp [intOf]; omega
    · obtain rfl : k = n := by omega
      go_wp2_with fail
      exact bodyPost_ret (v := .int .i64 (cntL L i k x : Int)) (by simp [results, Tryd.results42, go_sem]) rfl ⟨rfl, qd, rfl⟩
end Go.Proofs.YtnffecoohkanhaaDoor.Px
