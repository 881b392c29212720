/- The library's IndexFunc at links with the closure of LinksCircle, and Index at a list of booleans. -/
import Derived.Test.YtdeompnaojiajaaDoorLeA
import Derived.Test.YtdeompnaojiajaaDoorLgP
import Derived.Laws.EntriesVeiled
namespace Go.Proofs.YtdeompnaojiajaaDoor.Px
open Go.RowKit
open Go.Maps (Keyed)
open Lk Ld

set_option maxRecDepth 100000 in
theorem circle_fn (t s c : ByteArray) (x y : List UInt8) (hx : bs x = s) (hy : bs y = c) (b : Nat) (W : World) (hc : W.cell? ⟨b, 0, none⟩ = some (.string c)) :
    Calls Tryd.prog 24 #[.agg #[.string t, .string s], .pointer (some ⟨b, 0, none⟩)] W fun e w' => e = .returned (.bool (decide (x = y))) ∧ Below W.heap.size W w' := by
  have hb : b < W.heap.size := block_lt_of_cell hc
  have hne : ¬ b = W.heap.size := by omega
  have hq : (s.toList == c.toList) = decide (x = y) := by
    rw [← hx, ← hy]
    by_cases h : x = y
    · subst h
      simp
    · rw [decide_eq_false h, beq_eq_false_iff_ne]
      exact fun e => h (bs_inj (ba_eq e))
  obtain ⟨q, hqq⟩ : ∃ q, decide (x = y) = q := ⟨_, rfl⟩
  rw [hqq] at hq ⊢
  clear hqq hx hy
  have K0 := Lib.hid ((Kp.start W).allocAt W.heap.size rfl (.cells #[.string t, .string s] 36))
  go_enter Tryd.func24, Tryd.ntmps24
  go_wp2_with fail
  exact bodyPost_ret (v := .bool q) (by simp [results, Tryd.results24, go_sem]) rfl ⟨rfl, K0.out.below⟩
set_option maxHeartbeats 4000000 in
set_option maxRecDepth 100000 in
theorem index_link (L : List (List UInt8 × List UInt8)) (y : List UInt8) (c : ByteArray) (hy : bs y = c) (v : Value) (b : Nat) (W : World) (hV : LkV W v L) (hc : W.cell? ⟨b, 0, none⟩ = some (.string c)) (hmax : L.length ≤ 1000000)
    (ent : ∀ args w, (callFunc 24 args).run Tryd.prog w = .ok (.enter 24 args) w) :
    Calls Tryd.prog 23 #[v, .func (.func 24) #[] #[.pointer (some ⟨b, 0, none⟩)]] W fun e w' => e = .returned (.int .i64 (if y ∈ nm L then ((nm L).idxOf y : Int) else -1)) ∧ Below W.heap.size W w' := by
  obtain ⟨a, cp, rfl, hc1, hc2⟩ := SlV.slA hV
  have hall := fun h0 => SlV.allA hV h0
  have hb : b < W.heap.size := block_lt_of_cell hc
  obtain ⟨n, hn⟩ : ∃ n, L.length = n := ⟨_, rfl⟩
  rw [hn] at hall hmax hc1 ⊢
  unfold maxLen at hc2
  have HA := Lib.hid hall
  have HN := Lib.hid hn
  have HY := Lib.hid hy
  obtain ⟨R, hR⟩ : ∃ r : Int, (if y ∈ nm L then ((nm L).idxOf y : Int) else -1) = r := ⟨_, rfl⟩
  rw [hR]
  have HRR := Lib.hid hR
  clear hV hall hn hy hR
  have HNn := Lib.hid (show (nm L).length = n by rw [nm_len]; exact HN.out)
  go_enter Tryd.func23, Tryd.ntmps23
  go_wp2_with fail
  go_loopw [5, 8] (fun _ v8 wr => ∃ i : Nat, i ≤ n ∧ v8 = .int .i64 (i : Int) ∧ (∀ j, j < i → (nm L)[j]? ≠ some y) ∧ Below W.heap.size W wr) (fun _ v8 _ => n - (intOf v8).toNat)
  case atStart => exact ⟨0, by omega, rfl, (fun j hj => by omega), Below.refl _ _⟩
  case round =>
    obtain ⟨i, hi, rfl, hno, hbe⟩ := hrel
    have HNO := Lib.hid hno
    have HB := Lib.hid hbe
    clear hno hbe
    by_cases hlt : i < n
    · obtain ⟨g, o, c', e1, _, _, hg, hcell⟩ := HA.out (by omega)
      simp only [Value.slice.injEq] at e1
      obtain ⟨rfl, _, rfl⟩ := e1
      have hil : i < L.length := by rw [HN.out]; exact hlt
      have k0 := (HB.out.cell (p := ⟨g, o + i * 2, none⟩) hg).trans (hcell (i * 2) _ (lk_get hil).1)
      have k1 := (HB.out.cell (p := ⟨g, o + (i * 2 + 1), none⟩) hg).trans (hcell (i * 2 + 1) _ (lk_get hil).2)
      rw [← Nat.add_assoc] at k1
      have kc := (HB.out.cell (p := ⟨b, 0, none⟩) hb).trans hc
      have hx : (nm L)[i]? = some (L.getD i ([], [])).1 := by
        unfold nm
        rw [List.getElem?_map, List.getD, List.getElem?_eq_getElem hil]
        rfl
      obtain ⟨p, hp⟩ : ∃ p, L.getD i ([], []) = p := ⟨_, rfl⟩
      rw [hp] at k0 k1 hx
      obtain ⟨st, hst⟩ : ∃ s, bs p.2 = s := ⟨_, rfl⟩
      obtain ⟨sn, hsn⟩ : ∃ s, bs p.1 = s := ⟨_, rfl⟩
      rw [hst] at k0
      rw [hsn] at k1
      have CC := Lib.hid (circle_fn st sn c p.1 y hsn HY.out b wr kc)
      have HX := Lib.hid hx
      clear hcell hp hst hsn hx
      by_cases hq : p.1 = y
      · rw [decide_eq_true hq] at CC
        have HR := Lib.hid (show R = (i : Int) by
          rw [← HRR.out]
          have h1 : (nm L)[i]? = some y := by rw [HX.out, hq]
          rw [if_pos (List.mem_of_getElem? h1), idx_iff h1 HNO.out])
        clear hq
        go_wp2_with fail
        refine CC.out.mono ?_
        rintro e w1 ⟨rfl, h1⟩
        have HB1 := Lib.hid (HB.out.trans (h1.mono HB.out.size))
        clear h1
        go_wp2_with fail
        refine bodyPost_ret (v := .int .i64 i) (by simp [results, Tryd.results23, go_sem]) rfl ⟨?_, HB1.out⟩
        rw [HR.out]
      · rw [decide_eq_false hq] at CC
        have HNO2 := Lib.hid (show ∀ j, j < i + 1 → (nm L)[j]? ≠ some y from fun j hj => by
          by_cases e : j = i
          · subst e
            rw [HX.out]
            exact fun q => hq (Option.some.inj q)
          · exact HNO.out j (by omega))
        clear hq
        go_wp2_with fail
        refine CC.out.mono ?_
        rintro e w1 ⟨rfl, h1⟩
        have HB1 := Lib.hid (HB.out.trans (h1.mono HB.out.size))
        clear h1
        go_wp2_with fail
        go_roundw
        case rel => exact ⟨i + 1, by omega, by go_num, HNO2.out, HB1.out⟩
        case measure => simp [intOf]; omega
    · obtain rfl : i = n := by omega
      have HR := Lib.hid (show R = -1 by
        rw [← HRR.out, if_neg]
        intro h
        obtain ⟨j, hj, e⟩ := List.getElem_of_mem h
        rw [HNn.out] at hj
        exact HNO.out j hj (by rw [List.getElem?_eq_getElem (by rw [HNn.out]; exact hj), e]))
      go_wp2_with fail
      refine bodyPost_ret (v := .int .i64 (-1)) (by simp [results, Tryd.results23, go_sem]) rfl ⟨?_, HB.out⟩
      rw [HR.out]
set_option maxHeartbeats 4000000 in
set_option maxRecDepth 100000 in
theorem index_true (r : Nat → Bool) (n f : Nat) (hf : f < n) (hr : r f = true) (hlow : ∀ j, j < f → r j = false) (v : Value) (W : World) (hV : SlV W v 1 n ((List.range n).map fun j => .bool (r j))) (hmax : n ≤ 1000000) :
    Calls Tryd.prog 25 #[v, .bool true] W fun e w' => e = .returned (.int .i64 (f : Int)) ∧ Below W.heap.size W w' := by
  obtain ⟨b, o, c, rfl, hc1, hc2, hb, hcell⟩ := hV.allA (by omega)
  unfold maxLen at hc2
  have HC := Lib.hid (show ∀ j, j < n → W.cell? ⟨b, o + j, none⟩ = some (.bool (r j)) from fun j hj => hcell j _ (by rw [List.getElem?_map, List.getElem?_range hj]; rfl))
  have HL := Lib.hid hlow
  have HR := Lib.hid hr
  clear hV hcell hlow hr
  go_enter Tryd.func25, Tryd.ntmps25
  go_wp2_with fail
  go_loopw [5, 8] (fun _ v8 wr => ∃ i : Nat, i ≤ f ∧ v8 = .int .i64 (i : Int) ∧ Below W.heap.size W wr) (fun _ v8 _ => n - (intOf v8).toNat)
  case atStart => exact ⟨0, by omega, rfl, Below.refl _ _⟩
  case round =>
    obtain ⟨i, hi, rfl, hbe⟩ := hrel
    have HB := Lib.hid hbe
    clear hbe
    have hlt : i < n := by omega
    have k0 := (HB.out.cell (p := ⟨b, o + i, none⟩) hb).trans (HC.out i hlt)
    by_cases hif : i < f
    · rw [HL.out i hif] at k0
      go_wp2_with fail
      go_roundw
      case rel => exact ⟨i + 1, by omega, by go_num, HB.out⟩
      case measure => simp [intOf]; omega
    · obtain rfl : f = i := by omega
      rw [HR.out] at k0
      go_wp2_with fail
      exact bodyPost_ret (v := .int .i64 f) (by simp [results, Tryd.results25, go_sem]) rfl ⟨rfl, HB.out⟩
end Go.Proofs.YtdeompnaojiajaaDoor.Px
