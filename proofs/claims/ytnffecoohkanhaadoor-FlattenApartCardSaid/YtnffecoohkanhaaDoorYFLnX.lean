/- The helper of of the laws of chapter 35: a source from lists of names. -/
import Derived.Test.YtnffecoohkanhaaDoorYLnG
import Derived.Test.YtnffecoohkanhaaDoorM4
import Derived.Test.YtnffecoohkanhaaDoorYLnR
import Derived.Shelf.RegionOpen
import Derived.Deep.RegionLaw
import Derived.Deep.RegionHeldLaw
import Derived.Deep.AppendLies
namespace Go.Proofs.YtnffecoohkanhaaDoor.Px
open Go.RowKit
open Go.Maps (Keyed)
open Lk

theorem infoZn : (Tryd.prog.info? 40).map (fun i => (i.zero, i.size, i.bytes)) = some (some (.agg #[.string ⟨#[]⟩, .slice none 0 0]), 2, 40) := by kernel_rfl
theorem infoLn : (Tryd.prog.info? 43).map (fun i => (i.zero, i.size, i.bytes)) = some (some (.agg #[.string ⟨#[]⟩, .string ⟨#[]⟩]), 2, 32) := by kernel_rfl
def zo1 (z : List UInt8) : Zo := (z, (none, 0, 0))
def zos (zs : List (List UInt8)) : List Zo := zs.map zo1
theorem zos_names (zs : List (List UInt8)) : znames (zos zs) = zs := by unfold znames zos; rw [List.map_map]; simp [zo1, Function.comp_def]
theorem zos_snoc (l : List (List UInt8)) (x : List UInt8) : (zos (l ++ [x])).flatMap zcells = (zos l).flatMap zcells ++ [.string (bs x), .slice none 0 0] := by unfold zos; simp [zo1, zcells]
theorem lks_snoc (l : List (List UInt8 × List UInt8)) (x : List UInt8 × List UInt8) : (l ++ [x]).flatMap kcells = l.flatMap kcells ++ [.string (bs x.2), .string (bs x.1)] := by simp [kcells]
def flatP (P : List (List UInt8 × List UInt8)) : List (List UInt8) := P.flatMap fun p => [p.1, p.2]
theorem flatP_at (P : List (List UInt8 × List UInt8)) {k : Nat} {p : List UInt8 × List UInt8} (h : P[k]? = some p) : (flatP P)[2 * k]? = some p.1 ∧ (flatP P)[2 * k + 1]? = some p.2 := by
  induction P generalizing k with
  | nil => simp at h
  | cons q r ih =>
    cases k with
    | zero =>
      have : q = p := by simpa using h
      subst this
      exact ⟨rfl, rfl⟩
    | succ k =>
      rw [List.getElem?_cons_succ] at h
      have := ih h
      exact this
theorem flatP_len (P : List (List UInt8 × List UInt8)) : (flatP P).length = 2 * P.length := by
  induction P with
  | nil => rfl
  | cons q r ih =>
    show (flatP r).length + 1 + 1 = _
    rw [ih, List.length_cons]
    omega
def sn : Value := .slice none 0 0
set_option maxHeartbeats 8000000 in
set_option maxRecDepth 100000 in
theorem of_any (zs : List (List UInt8)) (P : List (List UInt8 × List UInt8)) (va vb : Value) (W : World) (hA : SlV W va 1 zs.length (zs.map svv)) (hB : SlV W vb 1 (flatP P).length ((flatP P).map svv)) (hz : zs.length ≤ 1000) (hl : P.length ≤ 1000)
    (hzn : ∀ z ∈ zs, z.length ≤ maxLen) (hln : ∀ p ∈ P, p.1.length ≤ maxLen ∧ p.2.length ≤ maxLen) :
    Calls Tryd.prog 27 #[va, vb] W fun e w' => ∃ zv lv, e = .returned (.agg #[.slice none 0 0, zv, lv, .slice none 0 0]) ∧ SrcV w' zv lv (zos zs) P ∧ Below W.heap.size W w' := by
  obtain ⟨a, c, rfl, hc1, hc2⟩ := hA.slA
  have hallA := fun h0 => hA.allA h0
  obtain ⟨a2, c2, rfl, hd1, hd2⟩ := hB.slA
  have hallB := fun h0 => hB.allA h0
  rw [flatP_len] at hallB hd1
  rw [flatP_len]
  obtain ⟨nz, hnz⟩ : ∃ n, zs.length = n := ⟨_, rfl⟩
  obtain ⟨nl, hnl⟩ : ∃ n, P.length = n := ⟨_, rfl⟩
  rw [hnz] at hallA hz hc1 ⊢
  rw [hnl] at hallB hl hd1 ⊢
  obtain ⟨m, hm⟩ : ∃ m, 2 * nl = m := ⟨_, rfl⟩
  rw [hm] at hallB hd1 ⊢
  unfold maxLen at hc2 hd2
  have HA := Lib.hid hallA
  have HB := Lib.hid hallB
  have HNz := Lib.hid hnz
  have HNl := Lib.hid hnl
  have HZn := Lib.hid hzn
  have HLn := Lib.hid hln
  obtain ⟨iz, hiz, hz0, hz1, hz2⟩ := info_partsU infoZn
  obtain ⟨il, hil, hl0, hl1, hl2⟩ := info_partsU infoLn
  have K0 := Lib.hid (show Kp [(W.heap.size + 1, .cells #[.slice none 0 0, .slice none 0 0, .slice none 0 0, .slice none 0 0] 27 (0, 0)), (W.heap.size, .cells #[.slice none 0 0, .slice none 0 0, .slice none 0 0, .slice none 0 0] 27 (0, 0))] [⟨.slice none 0 0, 40, 2, 0, (zos (zs.take 0)).flatMap zcells⟩] W _ from (((Kp.start W).allocAt W.heap.size rfl (.cells #[.slice none 0 0, .slice none 0 0, .slice none 0 0, .slice none 0 0] 27)).allocAt (W.heap.size + 1) (by simp) (.cells #[.slice none 0 0, .slice none 0 0, .slice none 0 0, .slice none 0 0] 27)).fresh 40 2)
  clear hA hB hallA hallB hnz hnl hzn hln
  go_enter Tryd.func27, Tryd.ntmps27
  go_wp2_with fail
  go_loopw [7, 11] (fun _ i11 wr => ∃ (i : Nat) (v : Value), i ≤ nz ∧ i11 = .int .i64 (i : Int) ∧ Kp [(W.heap.size + 1, .cells #[.slice none 0 0, v, .slice none 0 0, .slice none 0 0] 27 (0, 0)), (W.heap.size, .cells #[.slice none 0 0, .slice none 0 0, .slice none 0 0, .slice none 0 0] 27 (0, 0))] [⟨v, 40, 2, i, (zos (zs.take i)).flatMap zcells⟩] W wr) (fun _ i11 _ => nz - (intOf i11).toNat)
  case atStart => exact ⟨0, _, by omega, rfl, K0.out⟩
  case round =>
    obtain ⟨i, v, hi', rfl, hk⟩ := hrel
    obtain ⟨a3, c3, rfl⟩ : ∃ a c, v = .slice a i c := own_slice (hk.row 0 rfl)
    have HK := Lib.hid hk
    obtain ⟨v0, v1, v2, v3⟩ := row4 (HK.out.at 0 rfl)
    clear hk K0
    have hw0 := HK.out.lt 0 rfl
    by_cases hlt : i < nz
    · obtain ⟨b, o, c', e1, _, _, hb, hcell⟩ := HA.out (by omega)
      simp only [Value.slice.injEq] at e1
      obtain ⟨rfl, _, rfl⟩ := e1
      obtain ⟨x, hx⟩ : ∃ x, zs[i]? = some x := ⟨_, List.getElem?_eq_getElem (by rw [HNz.out]; exact hlt)⟩
      have k0 := (HK.out.below.cell (p := ⟨b, o + i, none⟩) hb).trans (hcell i (.string (bs x)) (by rw [List.getElem?_map, hx]; rfl))
      have hbw := Nat.lt_of_lt_of_le hb HK.out.below.size
      have HTk := Lib.hid (show zs.take (i + 1) = zs.take i ++ [x] by rw [List.take_add_one, hx]; rfl)
      obtain ⟨s, hs⟩ : ∃ s, bs x = s := ⟨_, rfl⟩
      rw [hs] at k0
      have HS := Lib.hid hs
      have K1 := Lib.hid (HK.out.allocAt wr.heap.size rfl (.cells #[.string s, .slice none 0 0] 40))
      clear hx hcell hs
      go_wp2_with (first
        | (at_builtin; refine wpList_append_own_at _ rfl (.tmp 16) (.tmp 19) 23 rfl W.heap.size 40 iz (.agg #[.string ⟨#[]⟩, .slice none 0 0]) 2 40 Tryd.underlying23 hiz hz0 hz1 hz2 rfl (by decide) _ i _ rfl (K1.out.row 0 rfl) ⟨wr.heap.size, 0, none⟩ 1 1 [.string s, .slice none 0 0] rfl rfl ?c1 ?c2 ?c3 ?c4 ?c5 ?_; (case c1 => exact World.news_of_block (K1.out.at 0 rfl)); (case c2 => simp [Value.oneCell']); (case c3 => unfold maxLen; omega); (case c4 => omega); (case c5 => exact K1.out.below.size); intro v' w2 hown hgrow _ hat; obtain ⟨a5, c5, rfl⟩ : ∃ a c, v' = .slice a (i + 1) c := own_slice hown; have K2 := Lib.hid (K1.out.append hown hgrow hat).drop; clear hown hgrow hat; obtain ⟨y0, y1, y2, y3⟩ := row4 (K2.out.at 0 rfl); have y4 := free_at (K2.out.at 0 rfl) 1)
        | go_in)
      have K3 := Lib.hid (K2.out.set 0 rfl 1 (.slice a5 (i + 1) c5) rfl)
      go_roundw
      case rel =>
        refine ⟨i + 1, .slice a5 (i + 1) c5, by omega, by go_num, ?_⟩
        rw [HTk.out, zos_snoc, HS.out]
        exact K3.out
      case measure => simp [intOf]; omega
    · obtain rfl : nz = i := by omega
      have HTz := Lib.hid (show zs.take nz = zs from List.take_of_length_le (by rw [HNz.out]; exact Nat.le_refl _))
      have hkz := HK.out
      rw [HTz.out] at hkz
      have HKz := Lib.hid (show Kp [(W.heap.size + 1, .cells #[.slice none 0 0, .slice a3 nz c3, .slice none 0 0, .slice none 0 0] 27 (0, 0)), (W.heap.size, .cells #[.slice none 0 0, .slice none 0 0, .slice none 0 0, .slice none 0 0] 27 (0, 0))] [⟨.slice none 0 0, 43, 2, 0, (P.take 0).flatMap kcells⟩, ⟨.slice a3 nz c3, 40, 2, nz, (zos zs).flatMap zcells⟩] W wr from hkz.fresh 43 2)
      clear hkz
      go_wp2_with fail
      clear v0 v1 v2 v3 HK hw0
      go_loopw [8] (fun i8 wr => ∃ (i : Nat) (v : Value), i ≤ nl ∧ i8 = .int .i64 ((2 * i : Nat) : Int) ∧ Kp [(W.heap.size + 1, .cells #[.slice none 0 0, .slice a3 nz c3, v, .slice none 0 0] 27 (0, 0)), (W.heap.size, .cells #[.slice none 0 0, .slice none 0 0, .slice none 0 0, .slice none 0 0] 27 (0, 0))] [⟨v, 43, 2, i, (P.take i).flatMap kcells⟩, ⟨.slice a3 nz c3, 40, 2, nz, (zos zs).flatMap zcells⟩] W wr) (fun i8 _ => m - (intOf i8).toNat)
      case atStart => exact ⟨0, _, by omega, rfl, HKz.out⟩
      case round =>
        obtain ⟨i, v, hi', rfl, hk⟩ := hrel
        obtain ⟨a4, c4, rfl⟩ : ∃ a c, v = .slice a i c := own_slice (hk.row 0 rfl)
        have HK := Lib.hid hk
        obtain ⟨v0, v1, v2, v3⟩ := row4 (HK.out.at 0 rfl)
        clear hk HKz
        have hw0 := HK.out.lt 0 rfl
        by_cases hlt : i < nl
        · obtain ⟨b, o, c', e1, _, _, hb, hcell⟩ := HB.out (by omega)
          simp only [Value.slice.injEq] at e1
          obtain ⟨rfl, _, rfl⟩ := e1
          obtain ⟨x, hx⟩ : ∃ x, P[i]? = some x := ⟨_, List.getElem?_eq_getElem (by rw [HNl.out]; exact hlt)⟩
          obtain ⟨q0, q1⟩ := flatP_at P hx
          have k0 := (HK.out.below.cell (p := ⟨b, o + 2 * i, none⟩) hb).trans (hcell (2 * i) (.string (bs x.1)) (by rw [List.getElem?_map, q0]; rfl))
          have k1 := (HK.out.below.cell (p := ⟨b, o + (2 * i + 1), none⟩) hb).trans (hcell (2 * i + 1) (.string (bs x.2)) (by rw [List.getElem?_map, q1]; rfl))
          have hbw := Nat.lt_of_lt_of_le hb HK.out.below.size
          have HTk := Lib.hid (show P.take (i + 1) = P.take i ++ [x] by rw [List.take_add_one, hx]; rfl)
          obtain ⟨s1, hs1⟩ : ∃ s, bs x.1 = s := ⟨_, rfl⟩
          obtain ⟨s2, hs2⟩ : ∃ s, bs x.2 = s := ⟨_, rfl⟩
          rw [hs1] at k0
          rw [hs2] at k1
          have HS1 := Lib.hid hs1
          have HS2 := Lib.hid hs2
          have KE := Lib.hid (HK.out.allocAt wr.heap.size rfl (.cells #[.string s2, .string s1] 43)).drew
          obtain ⟨ii, hii⟩ : ∃ j, 2 * i = j := ⟨_, rfl⟩
          have hiw : (ii : Int) + 1 < (m : Int) := by omega
          have hiv : (ii : Int) < (m : Int) := by omega
          have hi0 : (0 : Int) ≤ (ii : Int) := by omega
          have hi1 : (0 : Int) ≤ (ii : Int) + 1 := by omega
          have hi2 : ((ii : Int) + 1).toNat = ii + 1 := by omega
          have hwr : IntKind.i64.wrap ((ii : Int) + 1) = (ii : Int) + 1 := IntWalk.i64_in _ (by omega)
          rw [hii] at k0 k1 ⊢
          clear hx hcell q0 q1 hs1 hs2
          go_upto_region 10 with fail
          have hw1 := KE.out.lt 1 rfl
          obtain ⟨p0, p1, p2, p3⟩ := row4 (KE.out.at 1 rfl)
          have hb10 := KE.out.below.cell (p := ⟨b, o + ii, none⟩) hb
          go_region_law
            (first
              | (refine step_append_lies _ (by rfl) (.tmp 31) (.tmp 42) 24 (by rfl) W.heap.size 43 il (.agg #[.string ⟨#[]⟩, .string ⟨#[]⟩]) 2 32 Tryd.underlying24 hil hl0 hl1 hl2 (by rfl) (by decide) _ i _ (by rfl) (KE.out.row 0 rfl) ⟨wr.heap.size, 0, none⟩ 1 1 [.string s2, .string s1] (by rfl) (by rfl) (World.news_of_block (KE.out.at 0 rfl)) (by simp [Value.oneCell']) (by omega) (by unfold maxLen; omega) (by omega) KE.out.below.size _ rfl ?_; intro g cap w1 hown hgrow hat hlt; have K2 := Lib.hid ((KE.out.append hown hgrow (ownAt hat)).drop); obtain ⟨y0, y1, y2, y3⟩ := row4 (K2.out.at 0 rfl); have y4 := free_at (K2.out.at 0 rfl) 2; clear hown hgrow hat hlt))
          all_goals
            have K3 := Lib.hid (K2.out.set 0 rfl 2 (.slice (some ⟨g, 0, none⟩) (i + 1) cap) rfl)
            go_wp2_with fail
            go_roundw
            case rel =>
              refine ⟨i + 1, .slice (some ⟨g, 0, none⟩) (i + 1) cap, by omega, by rw [← hii]; go_num, ?_⟩
              rw [HTk.out, lks_snoc, HS1.out, HS2.out]
              exact K3.out
            case measure => simp [intOf]; omega
        · obtain rfl : nl = i := by omega
          have HTl := Lib.hid (show P.take nl = P from List.take_of_length_le (by rw [HNl.out]; exact Nat.le_refl _))
          have hk := HK.out
          rw [HTl.out] at hk
          obtain ⟨x0, x1, x2, x3⟩ := row4 (HK.out.at 1 rfl)
          have x4 := free_at (HK.out.at 1 rfl) 0
          have x5 := free_at (HK.out.at 1 rfl) 1
          have x6 := free_at (HK.out.at 1 rfl) 2
          have x7 := free_at (HK.out.at 1 rfl) 3
          go_wp2_with fail
          have KF := Lib.hid ((((HK.out.set 1 rfl 0 (.slice none 0 0) rfl).set 1 rfl 1 (.slice a3 nz c3) rfl).set 1 rfl 2 (.slice a4 nl c4) rfl).set 1 rfl 3 (.slice none 0 0) rfl)
          obtain ⟨r0, r1, r2, r3⟩ := row4 (KF.out.at 1 rfl)
          refine bodyPost_ret (v := .agg #[.slice none 0 0, .slice a3 nz c3, .slice a4 nl c4, .slice none 0 0]) (by simp [results, Tryd.results27, go_sem, r0, r1, r2, r3]) rfl ⟨_, _, rfl, ?_, KF.out.below⟩
          have hL := SlV.of_own (KF.out.row 0 rfl)
          have hZ := SlV.of_own (KF.out.row 1 rfl)
          rw [HTl.out] at hL
          refine ⟨?_, ?_, fun z hz => ?_, HLn.out⟩
          · show SlV _ _ 2 (zos zs).length _
            rw [show (zos zs).length = nz by unfold zos; rw [List.length_map, HNz.out]]
            exact hZ
          · show SlV _ _ 2 P.length _
            rw [HNl.out]
            exact hL
          · obtain ⟨y, hy, rfl⟩ := List.mem_map.1 hz
            exact HZn.out y hy
end Go.Proofs.YtnffecoohkanhaaDoor.Px
