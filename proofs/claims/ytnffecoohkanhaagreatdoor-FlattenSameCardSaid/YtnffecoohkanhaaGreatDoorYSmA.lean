/- Whether one of some zones has a name: the closure of FlattenSame, slices.IndexFunc and ContainsFunc over it. -/
import Derived.Test.YtnffecoohkanhaaGreatDoorYFuR
import Derived.Laws.EntriesVeiled
namespace Go.Proofs.YtnffecoohkanhaaGreatDoor.Px
open Go.RowKit
open Go.Maps (Keyed)
open Lk Ld

set_option maxHeartbeats 4000000 in
set_option maxRecDepth 100000 in
theorem same_fn (s c : ByteArray) (ea : Option Addr) (en ec : Nat) (x y : List UInt8) (hx : bs x = s) (hy : bs y = c) (b : Nat) (W : World) (hc : W.cell? ⟨b, 0, none⟩ = some (.string c)) :
    Calls Tryz.prog 11 #[.agg #[.string s, .slice ea en ec], .pointer (some ⟨b, 0, none⟩)] W fun e w' => e = .returned (.bool (decide (x = y))) ∧ Below W.heap.size W w' := by
  have hb : b < W.heap.size := block_lt_of_cell hc
  have hne : ¬ b = W.heap.size := by omega
  have hq : (s.toList == c.toList) = decide (x = y) := by
    rw [← hx, ← hy]
    by_cases h : x = y
    · subst h
      simp
    · rw [decide_eq_false h, beq_eq_false_iff_ne]
      exact fun e => h (bs_inj (ba_eq e))
  obtain ⟨q, hqq⟩ : ∃ q, decide (x = y) = q := ⟨_, rfl⟩
  rw [hqq] at hq ⊢
  clear hqq hx hy
  have K0 := Lib.hid ((Kp.start W).allocAt W.heap.size rfl (.cells #[.string s, .slice ea en ec] 42))
  go_enter Tryz.func11, Tryz.ntmps11
  go_wp2_with fail
  exact bodyPost_ret (v := .bool q) (by simp [results, Tryz.results11, go_sem]) rfl ⟨rfl, K0.out.below⟩
set_option maxHeartbeats 4000000 in
set_option maxRecDepth 100000 in
theorem index_zone (Q : List Zo) (y : List UInt8) (c : ByteArray) (hy : bs y = c) (v : Value) (b : Nat) (W : World) (hV : ZoV W v Q) (hc : W.cell? ⟨b, 0, none⟩ = some (.string c)) (hmax : Q.length ≤ 1000000)
    (ent : ∀ args w, (callFunc 11 args).run Tryz.prog w = .ok (.enter 11 args) w) :
    Calls Tryz.prog 27 #[v, .func (.func 11) #[] #[.pointer (some ⟨b, 0, none⟩)]] W fun e w' => e = .returned (.int .i64 (if y ∈ znames Q then ((znames Q).idxOf y : Int) else -1)) ∧ Below W.heap.size W w' := by
  obtain ⟨a, cp, rfl, hc1, hc2⟩ := SlV.slA hV
  have hall := fun h0 => SlV.allA hV h0
  have hb : b < W.heap.size := block_lt_of_cell hc
  obtain ⟨n, hn⟩ : ∃ n, Q.length = n := ⟨_, rfl⟩
  rw [hn] at hall hmax hc1 ⊢
  unfold maxLen at hc2
  have HA := Lib.hid hall
  have HN := Lib.hid hn
  have HY := Lib.hid hy
  obtain ⟨R, hR⟩ : ∃ r : Int, (if y ∈ znames Q then ((znames Q).idxOf y : Int) else -1) = r := ⟨_, rfl⟩
  rw [hR]
  have HRR := Lib.hid hR
  clear hV hall hn hy hR
  have HNn := Lib.hid (show (znames Q).length = n by rw [znames_len]; exact HN.out)
  go_enter Tryz.func27, Tryz.ntmps27
  go_wp2_with fail
  go_loopw [5, 8] (fun _ v8 wr => ∃ i : Nat, i ≤ n ∧ v8 = .int .i64 (i : Int) ∧ (∀ j, j < i → (znames Q)[j]? ≠ some y) ∧ Below W.heap.size W wr) (fun _ v8 _ => n - (intOf v8).toNat)
  case atStart => exact ⟨0, by omega, rfl, (fun j hj => by omega), Below.refl _ _⟩
  case round =>
    obtain ⟨i, hi, rfl, hno, hbe⟩ := hrel
    have HNO := Lib.hid hno
    have HB := Lib.hid hbe
    clear hno hbe
    by_cases hlt : i < n
    · obtain ⟨g, o, c', e1, _, _, hg, hcell⟩ := HA.out (by omega)
      simp only [Value.slice.injEq] at e1
      obtain ⟨rfl, _, rfl⟩ := e1
      obtain ⟨p, hp⟩ : ∃ p, Q[i]? = some p := ⟨_, List.getElem?_eq_getElem (by rw [HN.out]; exact hlt)⟩
      have k0 := (HB.out.cell (p := ⟨g, o + i * 2, none⟩) hg).trans (hcell (i * 2) _ (zo_at Q hp).1)
      have k1 := (HB.out.cell (p := ⟨g, o + (i * 2 + 1), none⟩) hg).trans (hcell (i * 2 + 1) _ (zo_at Q hp).2)
      rw [← Nat.add_assoc] at k1
      have kc := (HB.out.cell (p := ⟨b, 0, none⟩) hb).trans hc
      have hx : (znames Q)[i]? = some p.1 := znames_at hp
      obtain ⟨x, ea, en, ec⟩ := p
      dsimp only at k0 k1 hx
      obtain ⟨sn, hsn⟩ : ∃ s, bs x = s := ⟨_, rfl⟩
      rw [hsn] at k0
      have CC := Lib.hid (same_fn sn c ea en ec x y hsn HY.out b wr kc)
      have HX := Lib.hid hx
      clear hcell hp hsn hx
      by_cases hq : x = y
      · rw [decide_eq_true hq] at CC
        have HR := Lib.hid (show R = (i : Int) by
          rw [← HRR.out]
          have h1 : (znames Q)[i]? = some y := by rw [HX.out, hq]
          rw [if_pos (List.mem_of_getElem? h1), idx_iff h1 HNO.out])
        clear hq
        go_wp2_with fail
        refine CC.out.mono ?_
        rintro e w1 ⟨rfl, h1⟩
        have HB1 := Lib.hid (HB.out.trans (h1.mono HB.out.size))
        clear h1
        go_wp2_with fail
        refine bodyPost_ret (v := .int .i64 i) (by simp [results, Tryz.results27, go_sem]) rfl ⟨?_, HB1.out⟩
        rw [HR.out]
      · rw [decide_eq_false hq] at CC
        have HNO2 := Lib.hid (show ∀ j, j < i + 1 → (znames Q)[j]? ≠ some y from fun j hj => by
          by_cases e : j = i
          · subst e
            rw [HX.out]
            exact fun q => hq (Option.some.inj q)
          · exact HNO.out j (by omega))
        clear hq
        go_wp2_with fail
        refine CC.out.mono ?_
        rintro e w1 ⟨rfl, h1⟩
        have HB1 := Lib.hid (HB.out.trans (h1.mono HB.out.size))
        clear h1
        go_wp2_with fail
        go_roundw
        case rel => exact ⟨i + 1, by omega, by go_num, HNO2.out, HB1.out⟩
        case measure => simp [intOf]; omega
    · obtain rfl : i = n := by omega
      have HR := Lib.hid (show R = -1 by
        rw [← HRR.out, if_neg]
        intro h
        obtain ⟨j, hj, e⟩ := List.getElem_of_mem h
        rw [HNn.out] at hj
        exact HNO.out j hj (by rw [List.getElem?_eq_getElem (by rw [HNn.out]; exact hj), e]))
      go_wp2_with fail
      refine bodyPost_ret (v := .int .i64 (-1)) (by simp [results, Tryz.results27, go_sem]) rfl ⟨?_, HB.out⟩
      rw [HR.out]
set_option maxHeartbeats 4000000 in
set_option maxRecDepth 100000 in
theorem contains_zone (Q : List Zo) (y : List UInt8) (c : ByteArray) (hy : bs y = c) (v : Value) (b : Nat) (W : World) (hV : ZoV W v Q) (hc : W.cell? ⟨b, 0, none⟩ = some (.string c)) (hmax : Q.length ≤ 1000000) (hin : y ∈ znames Q)
    (ent : ∀ args w, (callFunc 11 args).run Tryz.prog w = .ok (.enter 11 args) w) :
    Calls Tryz.prog 10 #[v, .func (.func 11) #[] #[.pointer (some ⟨b, 0, none⟩)]] W fun e w' => e = .returned (.bool true) ∧ Below W.heap.size W w' := by
  have CI := index_zone Q y c hy v b W hV hc hmax ent
  rw [if_pos hin] at CI
  obtain ⟨k, hk⟩ : ∃ k, (znames Q).idxOf y = k := ⟨_, rfl⟩
  rw [hk] at CI
  have CI := Lib.hid CI
  obtain ⟨a, cp, rfl, _, _⟩ := SlV.slA hV
  obtain ⟨n, hn⟩ : ∃ n, Q.length = n := ⟨_, rfl⟩
  rw [hn] at CI ⊢
  clear hV hc hn hk hin hy
  go_enter Tryz.func10, Tryz.ntmps10
  go_wp2_with (first | (go_at_call 27; refine CI.out.mono ?_; rintro e X ⟨rfl, hb⟩; have HB := Lib.hid hb; clear hb))
  refine bodyPost_ret (v := .bool true) (by simp [results, Tryz.results10, go_sem]) rfl ⟨rfl, HB.out⟩
end Go.Proofs.YtnffecoohkanhaaGreatDoor.Px
