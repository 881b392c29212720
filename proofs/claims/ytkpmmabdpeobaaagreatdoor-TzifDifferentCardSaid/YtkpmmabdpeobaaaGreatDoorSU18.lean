/- Whether tables are equal: slices.Equal over types and transitions, table.Same, analemmaref40.Same. The functions table.Same and analemmaref40.Same: whether two tables are equal. -/
import Derived.Test.YtkpmmabdpeobaaaGreatDoorSU17
namespace Go.Proofs.YtkpmmabdpeobaaaGreatDoor.Px
open Go.RowKit
open Tb
theorem tr_ne2 {y l : Tr} (h : y ≠ l) : ∀ X : World, (if y.at' = l.at' then (if y.ty = l.ty then Result.ok (Next.value (Value.bool false)) X else Result.ok (Next.value (Value.bool true)) X) else Result.ok (Next.value (Value.bool true)) X) = Result.ok (Next.value (Value.bool true)) X := by
 intro X
 by_cases h1 : y.at' = l.at'
 case neg => rw [if_neg h1]
 rw [if_pos h1]
 by_cases h2 : y.ty = l.ty
 case neg => rw [if_neg h2]
 exfalso
 apply h
 obtain ⟨_, _⟩ := y
 obtain ⟨_, _⟩ := l
 simp only [Tr.mk.injEq]
 exact ⟨h1, h2⟩
theorem take_eq {α : Type} {L M : List α} {i : Nat} {x y : α} (hx : L[i]? = some x) (hy : M[i]? = some y) (h : L.take i = M.take i) : L.take (i + 1) = M.take (i + 1) ↔ x = y := by
 rw [List.take_add_one, List.take_add_one, hx, hy, h]
 simp
theorem take_all {α : Type} {L M : List α} {n : Nat} (hL : L.length = n) (hM : M.length = n) (h : L.take n = M.take n) : L = M := by
 rw [List.take_of_length_le (by omega), List.take_of_length_le (by omega)] at h
 exact h
set_option maxHeartbeats 4000000 in
set_option maxRecDepth 100000 in
theorem eq_lcs (L M : List Lc) (v u : Value) (W : World) (h : LcV W v L) (k : LcV W u M) :
 Calls Tryz.prog 58 #[v, u] W fun e w' => e = .returned (.bool (decide (L = M))) ∧ Below W.heap.size W w' := by
 obtain ⟨n, hn⟩ : ∃ n, L.length = n := ⟨_, rfl⟩
 obtain ⟨m, hm⟩ : ∃ n, M.length = n := ⟨_, rfl⟩
 obtain ⟨a1, a2, rfl, a3, a4⟩ := h.slice
 obtain ⟨b1, b2, rfl, b3, b4⟩ := k.slice
 have hL := fun h0 => h.all h0
 have hM := fun h0 => k.all h0
 rw [hn] at a3 hL
 rw [hm] at b3 hM
 rw [hn, hm]
 unfold maxLen at a4 b4
 by_cases hnm : n = m
 case neg =>
  have e0 : L ≠ M := fun e => hnm (by rw [← hn, ← hm, e])
  rw [decide_eq_false e0]
  have i0 : ¬ (n : Int) = (m : Int) := by omega
  clear e0 h k hL hM hn hm
  go_enter Tryz.func58, Tryz.ntmps58
  go_wp2_with fail
  go_ret
  exact ⟨rfl, Below.refl _ _⟩
 subst hnm
 have HL := Lib.hid hL
 have HM := Lib.hid hM
 have HN := Lib.hid hn
 have HN2 := Lib.hid hm
 obtain ⟨R, hR⟩ : ∃ R, decide (L = M) = R := ⟨_, rfl⟩
 have HR := Lib.hid hR
 rw [hR]
 clear h k hL hM hn hm hR
 go_enter Tryz.func58, Tryz.ntmps58
 go_wp2_with fail
 go_loopw [5, 13] (fun _ i13 wr => ∃ i : Nat, i ≤ n ∧ i13 = .int .i64 i ∧ L.take i = M.take i ∧ Below W.heap.size W wr) (fun _ i13 _ => n - (intOf i13).toNat)
 case atStart => exact ⟨0, by omega, rfl, rfl, Below.refl _ _⟩
 case round =>
  obtain ⟨i, hi, rfl, ht, hB⟩ := hrel
  have HB := Lib.hid hB
  have HT := Lib.hid ht
  clear hB ht
  by_cases hlt : i < n
  · obtain ⟨b, o, c, e1, _, _, hb, hcell⟩ := HL.out (by omega)
    obtain ⟨b', o', c', e2, _, _, hb', hcell'⟩ := HM.out (by omega)
    simp only [Value.slice.injEq] at e1 e2
    obtain ⟨rfl, _, rfl⟩ := e1
    obtain ⟨rfl, _, rfl⟩ := e2
    obtain ⟨x, hx⟩ : ∃ x, L[i]? = some x := ⟨_, List.getElem?_eq_getElem (by have := HN.out; omega)⟩
    obtain ⟨y, hy⟩ : ∃ x, M[i]? = some x := ⟨_, List.getElem?_eq_getElem (by have := HN2.out; omega)⟩
    have HX := Lib.hid (take_eq hx hy HT.out)
    obtain ⟨c0, c1, c2⟩ := hcell i x hx
    obtain ⟨d0, d1, d2⟩ := hcell' i y hy
    have k0 := (HB.out.cell (p := ⟨b, o + i * 3, none⟩) hb).trans c0
    have q0 := (HB.out.cell (p := ⟨b', o' + i * 3, none⟩) hb').trans d0
    have k1 := (HB.out.cell (p := ⟨b, o + i * 3 + 1, none⟩) hb).trans c1
    have q1 := (HB.out.cell (p := ⟨b', o' + i * 3 + 1, none⟩) hb').trans d1
    have k2 := (HB.out.cell (p := ⟨b, o + i * 3 + 2, none⟩) hb).trans c2
    have q2 := (HB.out.cell (p := ⟨b', o' + i * 3 + 2, none⟩) hb').trans d2
    clear hcell hcell' hx hy c0 d0 c1 d1 c2 d2
    by_cases hxy : x = y
    · have HX2 := Lib.hid (HX.out.2 hxy)
      clear HX
      subst hxy
      go_upto_region 6 with fail
      go_quiet (fail)
      go_wp2_with fail
      go_roundw
      case rel => exact ⟨i + 1, by omega, by go_num, HX2.out, Civ.below_drewN HB.out _⟩
      case measure => simp [intOf]; omega
    · have HR2 := Lib.hid (show R = false by
        rw [← HR.out]
        exact decide_eq_false (fun e => hxy (HX.out.1 (by rw [e]))))
      have hq := loc_ne2 hxy
      clear HX
      go_upto_region 6 with fail
      go_quiet (fail)
      go_wp2_with fail
      go_ret
      exact ⟨by rw [HR2.out]; rfl, Civ.below_drewN HB.out _⟩
  · obtain rfl : i = n := by omega
    have HR2 := Lib.hid (show R = true by rw [← HR.out]; exact decide_eq_true (take_all HN.out HN2.out HT.out))
    go_wp2_with fail
    go_ret
    exact ⟨by rw [HR2.out]; rfl, HB.out⟩
set_option maxHeartbeats 4000000 in
set_option maxRecDepth 100000 in
theorem eq_trs (L M : List Tr) (v u : Value) (W : World) (h : TrV W v L) (k : TrV W u M) :
 Calls Tryz.prog 59 #[v, u] W fun e w' => e = .returned (.bool (decide (L = M))) ∧ Below W.heap.size W w' := by
 obtain ⟨n, hn⟩ : ∃ n, L.length = n := ⟨_, rfl⟩
 obtain ⟨m, hm⟩ : ∃ n, M.length = n := ⟨_, rfl⟩
 obtain ⟨a1, a2, rfl, a3, a4⟩ := h.slice
 obtain ⟨b1, b2, rfl, b3, b4⟩ := k.slice
 have hL := fun h0 => h.all h0
 have hM := fun h0 => k.all h0
 rw [hn] at a3 hL
 rw [hm] at b3 hM
 rw [hn, hm]
 unfold maxLen at a4 b4
 by_cases hnm : n = m
 case neg =>
  have e0 : L ≠ M := fun e => hnm (by rw [← hn, ← hm, e])
  rw [decide_eq_false e0]
  have i0 : ¬ (n : Int) = (m : Int) := by omega
  clear e0 h k hL hM hn hm
  go_enter Tryz.func59, Tryz.ntmps59
  go_wp2_with fail
  go_ret
  exact ⟨rfl, Below.refl _ _⟩
 subst hnm
 have HL := Lib.hid hL
 have HM := Lib.hid hM
 have HN := Lib.hid hn
 have HN2 := Lib.hid hm
 obtain ⟨R, hR⟩ : ∃ R, decide (L = M) = R := ⟨_, rfl⟩
 have HR := Lib.hid hR
 rw [hR]
 clear h k hL hM hn hm hR
 go_enter Tryz.func59, Tryz.ntmps59
 go_wp2_with fail
 go_loopw [5, 13] (fun _ i13 wr => ∃ i : Nat, i ≤ n ∧ i13 = .int .i64 i ∧ L.take i = M.take i ∧ Below W.heap.size W wr) (fun _ i13 _ => n - (intOf i13).toNat)
 case atStart => exact ⟨0, by omega, rfl, rfl, Below.refl _ _⟩
 case round =>
  obtain ⟨i, hi, rfl, ht, hB⟩ := hrel
  have HB := Lib.hid hB
  have HT := Lib.hid ht
  clear hB ht
  by_cases hlt : i < n
  · obtain ⟨b, o, c, e1, _, _, hb, hcell⟩ := HL.out (by omega)
    obtain ⟨b', o', c', e2, _, _, hb', hcell'⟩ := HM.out (by omega)
    simp only [Value.slice.injEq] at e1 e2
    obtain ⟨rfl, _, rfl⟩ := e1
    obtain ⟨rfl, _, rfl⟩ := e2
    obtain ⟨x, hx⟩ : ∃ x, L[i]? = some x := ⟨_, List.getElem?_eq_getElem (by have := HN.out; omega)⟩
    obtain ⟨y, hy⟩ : ∃ x, M[i]? = some x := ⟨_, List.getElem?_eq_getElem (by have := HN2.out; omega)⟩
    have HX := Lib.hid (take_eq hx hy HT.out)
    obtain ⟨c0, c1⟩ := hcell i x hx
    obtain ⟨d0, d1⟩ := hcell' i y hy
    have k0 := (HB.out.cell (p := ⟨b, o + i * 2, none⟩) hb).trans c0
    have q0 := (HB.out.cell (p := ⟨b', o' + i * 2, none⟩) hb').trans d0
    have k1 := (HB.out.cell (p := ⟨b, o + i * 2 + 1, none⟩) hb).trans c1
    have q1 := (HB.out.cell (p := ⟨b', o' + i * 2 + 1, none⟩) hb').trans d1
    clear hcell hcell' hx hy c0 d0 c1 d1
    by_cases hxy : x = y
    · have HX2 := Lib.hid (HX.out.2 hxy)
      clear HX
      subst hxy
      go_upto_region 6 with fail
      go_quiet (fail)
      go_wp2_with fail
      go_roundw
      case rel => exact ⟨i + 1, by omega, by go_num, HX2.out, Civ.below_drewN HB.out _⟩
      case measure => simp [intOf]; omega
    · have HR2 := Lib.hid (show R = false by
        rw [← HR.out]
        exact decide_eq_false (fun e => hxy (HX.out.1 (by rw [e]))))
      have hq := tr_ne2 hxy
      clear HX
      go_upto_region 6 with fail
      go_quiet (fail)
      go_wp2_with fail
      go_ret
      exact ⟨by rw [HR2.out]; rfl, Civ.below_drewN HB.out _⟩
  · obtain rfl : i = n := by omega
    have HR2 := Lib.hid (show R = true by rw [← HR.out]; exact decide_eq_true (take_all HN.out HN2.out HT.out))
    go_wp2_with fail
    go_ret
    exact ⟨by rw [HR2.out]; rfl, HB.out⟩
end Go.Proofs.YtkpmmabdpeobaaaGreatDoor.Px
namespace Go.Proofs.YtkpmmabdpeobaaaGreatDoor.Px
open Go.RowKit
open Tb
def sameB (x y : Tab) : Bool := decide (x.types = y.types) && decide (x.trans = y.trans) && decide (x.foot = y.foot)
theorem foot_eq {x y : Tab} {f g : ByteArray} (hf : f = bs x.foot) (hg : g = bs y.foot) : f.toList = g.toList ↔ x.foot = y.foot := by
 rw [hf, hg, ByteArray.toList_eq, ByteArray.toList_eq, bs_list, bs_list]
theorem pair_kp (W : World) (T : Nat) (a b c d e g : Value) : Kp [(W.heap.size + 1, .cells #[d, e, g] T (0, 0)), (W.heap.size, .cells #[a, b, c] T (0, 0))] [] W ((W.alloc (.cells #[a, b, c] T)).alloc (.cells #[d, e, g] T)) :=
 ((Kp.start W).alloc (.cells #[a, b, c] T)).allocAt (W.heap.size + 1) (by simp) (.cells #[d, e, g] T)
set_option maxHeartbeats 4000000 in
set_option maxRecDepth 100000 in
theorem same_any (x y : Tab) (tv rv tv' rv' : Value) (f f' : ByteArray) (W : World) (h : TabV W tv rv f x) (k : TabV W tv' rv' f' y) :
 Calls Tryz.prog 22 #[.agg #[tv, rv, .string f], .agg #[tv', rv', .string f']] W fun e w' => e = .returned (.bool (sameB x y)) ∧ Below W.heap.size W w' := by
 have hfe := foot_eq h.foot k.foot
 have K0 := Lib.hid (pair_kp W 25 tv rv (.string f) tv' rv' (.string f'))
 have HT := Lib.hid h
 have HU := Lib.hid k
 have C1 := Lib.hid (fun w h k => eq_lcs x.types y.types tv tv' w h k)
 have C2 := Lib.hid (fun w h k => eq_trs x.trans y.trans rv rv' w h k)
 obtain ⟨p1, hp1⟩ : ∃ p, decide (x.types = y.types) = p := ⟨_, rfl⟩
 obtain ⟨p2, hp2⟩ : ∃ p, decide (x.trans = y.trans) = p := ⟨_, rfl⟩
 have hs : sameB x y = (p1 && p2 && decide (x.foot = y.foot)) := by unfold sameB; rw [hp1, hp2]
 rw [hs]
 rw [hp1] at C1
 rw [hp2] at C2
 clear hp1 hp2 hs h k
 have z0 := K0.out.lt 0 rfl
 have z1 := K0.out.lt 1 rfl
 by_cases h3 : x.foot = y.foot
 case neg =>
  have ht : ¬ f.toList = f'.toList := fun e => h3 (hfe.1 e)
  rw [decide_eq_false h3, Bool.and_false]
  clear hfe h3
  go_enter Tryz.func22, Tryz.ntmps22
  go_wp2_with fail
  go_ret
  exact ⟨rfl, K0.out.below⟩
 have ht := hfe.2 h3
 rw [decide_eq_true h3, Bool.and_true]
 clear hfe h3
 cases p1
 case false =>
  go_enter Tryz.func22, Tryz.ntmps22
  go_wp2_with fail
  refine (C1.out _ (HT.out.types.keep K0.out.below) (HU.out.types.keep K0.out.below)).mono ?_
  rintro _ V ⟨rfl, hb⟩
  have K1 := Lib.hid (K0.out.keep hb)
  clear hb
  go_wp2_with fail
  go_ret
  exact ⟨rfl, K1.out.below⟩
 go_enter Tryz.func22, Tryz.ntmps22
 go_wp2_with fail
 refine (C1.out _ (HT.out.types.keep K0.out.below) (HU.out.types.keep K0.out.below)).mono ?_
 rintro _ V ⟨rfl, hb⟩
 have K1 := Lib.hid (K0.out.keep hb)
 obtain ⟨⟨m0, m1, m2⟩, _, _, _⟩ := row3 (K1.out.at 0 rfl)
 obtain ⟨⟨n0, n1, n2⟩, _, _, _⟩ := row3 (K1.out.at 1 rfl)
 clear hb
 go_wp2_with fail
 refine (C2.out _ (HT.out.trans.keep K1.out.below) (HU.out.trans.keep K1.out.below)).mono ?_
 rintro _ V2 ⟨rfl, hb⟩
 have K2 := Lib.hid (K1.out.keep hb)
 clear hb
 go_wp2_with fail
 go_ret
 exact ⟨by simp, K2.out.below⟩
end Go.Proofs.YtkpmmabdpeobaaaGreatDoor.Px
