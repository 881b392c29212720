/- The function Made of drafts of chapter 5, called with a slice of slices of bytes that reads as a list, returns the fields that madeL says; no block that was there changes. -/
import Derived.Test.YtjdckmhlgcjdgaaDoorOpen
namespace Go.Proofs.YtjdckmhlgcjdgaaDoor
open Go.RowKit
open Lx
open Lex (strV bytesOf)

def abc20 : ByteArray := ⟨#[97, 90, 48, 57, 32, 35, 45, 43, 47, 37, 58, 62, 61, 60, 46, 95, 39, 92, 126, 33]⟩
def madeC (n : UInt8) : UInt8 := abc20.data.toList.getD (n.toNat % 20) 97
def madeF (l : List UInt8) : List UInt8 := (l.take 12).map madeC
def madeL (R : List (List UInt8)) : List (List UInt8) := (R.take 12).map madeF
theorem madeC_ok (n : UInt8) : goodB (madeC n).toNat = true := by
  have h : ∀ j, j < 20 → goodB (abc20.data.toList.getD j 97).toNat = true := by decide
  exact h _ (Nat.mod_lt _ (by omega))
theorem madeF_ok (l : List UInt8) : goodF (madeF l) = true := by
  unfold goodF madeF
  rw [List.all_eq_true]
  intro c hc
  obtain ⟨n, _, rfl⟩ := List.mem_map.1 hc
  exact madeC_ok n
theorem madeF_len (l : List UInt8) : (madeF l).length ≤ 12 := by unfold madeF; rw [List.length_map, List.length_take]; omega
theorem madeL_len (R : List (List UInt8)) : (madeL R).length ≤ 12 := by unfold madeL; rw [List.length_map, List.length_take]; omega
theorem madeL_mem {R : List (List UInt8)} {p : List UInt8} (h : p ∈ madeL R) : p.length ≤ 12 ∧ goodF p = true := by
  obtain ⟨l, _, rfl⟩ := List.mem_map.1 h
  exact ⟨madeF_len l, madeF_ok l⟩
theorem abc_ext (j : Nat) (h : j < 20) : ((abc20.extract j 20).extract 0 1).data.toList = [abc20.data.toList.getD j 97] := by
  have h20 : ∀ j, j < 20 → ((abc20.extract j 20).extract 0 1).data.toList = [abc20.data.toList.getD j 97] := by decide
  exact h20 j h

/-- the state of the outer loop of Made -/
structure AtMade (R : List (List UInt8)) (k : Nat) (v3 : Value) (w wr : World) : Prop where
  outs : wr.ownsRow w.heap.size 9 1 v3 k (((R.take k).map madeF).map strV)
  below : Below w.heap.size w wr
theorem AtMade.push {R : List (List UInt8)} {k : Nat} {v3 v' : Value} {w wr w1 : World} {o : Obj} {y : ByteArray} (h : AtMade R k v3 w wr) (hk : k < R.length) (hy : y.data.toList = madeF (R.getD k []))
    (hown : w1.ownsRow w.heap.size 9 1 v' (k + 1) (((R.take k).map madeF).map strV ++ [.string y])) (hg : (wr.alloc o).grownBy w1 v3.ownBlock) : AtMade R (k + 1) v' w w1 := by
  have hz := h.below.size
  refine ⟨?_, (h.below.alloc hz o).grown hg (by simp; omega) (fun b hb => ((h.outs.alloc o).lt b hb).1)⟩
  rw [List.take_succ_eq_append_getElem hk, List.map_append, List.map_append]
  rw [bytesOf_eq hy, getD_lt hk] at hown
  exact hown
theorem made_step {l : List UInt8} {j q : Nat} {x : UInt8} {y : ByteArray} (hj : j < l.length) (hx : l.getD j 0 = x) (hq : x.toNat % 20 = q) (hy : y.data.toList = (l.take j).map madeC) :
    (y ++ (abc20.extract q 20).extract 0 1).data.toList = (l.take (j + 1)).map madeC := by
  rw [app_list, hy, abc_ext q (by omega), List.take_succ_eq_append_getElem hj, List.map_append]
  congr 1
  rw [getD_lt hj] at hx
  rw [hx]
  simp [madeC, hq]

set_option maxHeartbeats 4000000 in
set_option maxRecDepth 100000 in
theorem made_any (R : List (List UInt8)) (a : Option Addr) (c : Nat) (hc : R.length ≤ c) (hcm : c ≤ maxLen) (w : World) (hB : RowsAt w a R) :
    Calls Tryd.prog 15 #[.slice a R.length c] w fun e w' => ∃ v, e = .returned v ∧ w'.ownsRow w.heap.size 9 1 v (madeL R).length ((madeL R).map strV) ∧ Below w.heap.size w w' := by
  obtain ⟨i9, hi9, hz90, hz91, hz92⟩ := info_parts Lex.info9
  unfold maxLen at hcm
  have HB := Lib.hid hB
  clear hB
  by_cases h0 : R = []
  · subst h0
    have hmin : min (0 : Int) 12 = 0 := by decide
    go_enter Tryd.func15, Tryd.ntmps15
    go_wp2
    go_loop [3, 15] (fun o i => i = .int .i64 0 ∧ o = .slice none 0 0) (fun _ _ => 0)
    case atStart => exact ⟨rfl, rfl⟩
    case round =>
      obtain ⟨rfl, rfl⟩ := hrel
      go_wp2
      go_ret
      exact ⟨_, rfl, World.ownsRow_nil _ _ _ _, Below.refl _ _⟩
  · have hne : 0 < R.length := List.length_pos_iff.2 h0
    obtain ⟨b, off, rfl, hcell⟩ := HB.out.resolve_left h0
    obtain ⟨m, hm⟩ : ∃ m, min R.length 12 = m := ⟨_, rfl⟩
    have hm1 : 1 ≤ m := by omega
    have hm14 : m ≤ 12 := by omega
    have hmL : m ≤ R.length := by omega
    have hmin : min (R.length : Int) 12 = (m : Int) := by omega
    have hbw : b < w.heap.size := by
      obtain ⟨x, q, h1, _⟩ := hcell 0 hne
      exact block_lt_of_cell h1
    have HM := Lib.hid hm
    clear hcell hm h0
    go_enter Tryd.func15, Tryd.ntmps15
    go_wp2
    go_loopw [3, 15] (fun o i wr => ∃ k : Nat, k ≤ m ∧ i = .int .i64 k ∧ AtMade R k o w wr) (fun _ i _ => 12 - (intOf i).toNat)
    case atStart => exact ⟨0, by omega, rfl, World.ownsRow_nil _ _ _ _, Below.refl _ _⟩
    case round =>
      obtain ⟨k, hk, rfl, hA⟩ := hrel
      have HA := Lib.hid hA
      clear hA
      by_cases hlt : k < m
      · obtain ⟨x, q, hcell, hlq, hqm, hbytes⟩ : ∃ (x : Option Addr) (q : Nat), wr.cell? ⟨b, off + k, none⟩ = some (.slice x (R.getD k []).length q) ∧ (R.getD k []).length ≤ q ∧ q ≤ maxLen ∧ BytesAt wr x (R.getD k []) := by
          have hr := HB.out.keep HA.out.below
          obtain ⟨b', off', e, hx⟩ := hr.resolve_left (by intro e; rw [e] at hne; simp at hne)
          cases e
          exact hx k (by omega)
        obtain ⟨l, hl⟩ : ∃ l, R.getD k [] = l := ⟨_, rfl⟩
        rw [hl] at hcell hlq hbytes
        unfold maxLen at hqm
        have HL := Lib.hid hl
        clear hl
        by_cases hl0 : l = []
        · have HY := Lib.hid (show (⟨#[]⟩ : ByteArray).data.toList = madeF (R.getD k []) by rw [HL.out, hl0]; rfl)
          subst hl0
          have hmin0 : min (0 : Int) 12 = 0 := by decide
          clear hbytes
          go_wp2
          obtain ⟨wo, hwo⟩ : ∃ wo : World, wo = wr := ⟨_, rfl⟩
          subst hwo
          go_loop [6, 25] (fun s i => i = .int .i64 0 ∧ s = .string ⟨#[]⟩) (fun _ _ => 0)
          case atStart => exact ⟨rfl, rfl⟩
          case round =>
            obtain ⟨rfl, rfl⟩ := hrel
            go_wp2_with (at_builtin; refine wpList_append_own _ rfl _ _ 23 rfl w.heap.size 9 i9 (.string ⟨#[]⟩) 1 16 Tryd.underlying23 hi9 hz90 hz91 hz92 rfl (by decide) u3 k (((R.take k).map madeF).map strV) rfl (HA.out.outs.alloc _) ⟨wo.heap.size, 0, none⟩ 1 1 [.string ⟨#[]⟩] rfl rfl ?g1 ?g2 ?g3 ?g4 ?g5 ?_; (case g1 => exact cell_one_new _ _ _); (case g2 => simp [Value.oneCell']); (case g3 => unfold maxLen; omega); (case g4 => omega); (case g5 => have := HA.out.below.size; simp; omega); intro v' w1 hown' hgrow _; have HO := Lib.hid hown'; have HG := Lib.hid hgrow; clear hown' hgrow)
            go_roundw
            case rel => exact ⟨k + 1, by omega, by go_num, HA.out.push (by omega) HY.out HO.out HG.out⟩
            case measure => simp [intOf]; omega
        · have hlne : 0 < l.length := List.length_pos_iff.2 hl0
          obtain ⟨b2, off2, rfl, hcell2⟩ := hbytes.resolve_left hl0
          have HC2 := Lib.hid hcell2
          obtain ⟨m2, hm2⟩ : ∃ m2, min l.length 12 = m2 := ⟨_, rfl⟩
          have hm21 : 1 ≤ m2 := by omega
          have hm214 : m2 ≤ 12 := by omega
          have hm2L : m2 ≤ l.length := by omega
          have hmin2 : min (l.length : Int) 12 = (m2 : Int) := by omega
          have HM2 := Lib.hid hm2
          clear hcell2 hm2 hl0 hbytes
          go_wp2
          obtain ⟨wo, hwo⟩ : ∃ wo : World, wo = wr := ⟨_, rfl⟩
          subst hwo
          go_loop [6, 25] (fun s i => ∃ (j : Nat) (y : ByteArray), j ≤ m2 ∧ i = .int .i64 j ∧ s = .string y ∧ y.size ≤ 12 ∧ Hid (y.data.toList = (l.take j).map madeC)) (fun _ i => 12 - (intOf i).toNat)
          case atStart => exact ⟨0, ⟨#[]⟩, by omega, rfl, rfl, Nat.zero_le _, Lib.hid rfl⟩
          case round =>
            obtain ⟨j, y, hj, rfl, rfl, hys, HY⟩ := hrel
            by_cases hjm : j < m2
            · obtain ⟨z, hz⟩ : ∃ z : UInt8, l.getD j 0 = z := ⟨_, rfl⟩
              have hzl : (z.toNat : Int) ≤ 255 := by have := z.toNat_lt; omega
              have hcellz : wo.cell? ⟨b2, off2 + j, none⟩ = some (.int .u8 (z.toNat : Int)) := by rw [HC2.out j (by omega), hz]
              obtain ⟨qq, hqq⟩ : ∃ qq, z.toNat % 20 = qq := ⟨_, rfl⟩
              have hq20 : (z.toNat : Int) % 20 = (qq : Int) := by omega
              have hqqi : (qq : Int) < 20 := by omega
              have HS := Lib.hid (made_step (by omega) hz hqq HY.out)
              have hsz : (y ++ (abc20.extract qq 20).extract 0 1).size ≤ 12 := by
                rw [← Lex.len_eq, HS.out, List.length_map, List.length_take]; omega
              have HSZ := Lib.hid hsz
              clear hz hqq hsz
              go_wp2
              go_round
              case rel => exact ⟨j + 1, _, by omega, by go_num, rfl, HSZ.out, HS⟩
              case measure => simp [intOf]; omega
            · have HYF := Lib.hid (show y.data.toList = madeF (R.getD k []) by
                have := HM2.out
                rw [HY.out, HL.out, madeF]
                congr 1
                rcases (show m2 = l.length ∨ m2 = 12 by omega) with h | h
                · rw [List.take_of_length_le (by omega), List.take_of_length_le (by omega)]
                · rw [show j = 12 by omega])
              have hjm' : j = m2 := by omega
              subst hjm'
              clear HY
              go_wp2_with (at_builtin; refine wpList_append_own _ rfl _ _ 23 rfl w.heap.size 9 i9 (.string ⟨#[]⟩) 1 16 Tryd.underlying23 hi9 hz90 hz91 hz92 rfl (by decide) u3 k (((R.take k).map madeF).map strV) rfl (HA.out.outs.alloc _) ⟨wo.heap.size, 0, none⟩ 1 1 [.string y] rfl rfl ?g1 ?g2 ?g3 ?g4 ?g5 ?_; (case g1 => exact cell_one_new _ _ _); (case g2 => simp [Value.oneCell']); (case g3 => unfold maxLen; omega); (case g4 => omega); (case g5 => have := HA.out.below.size; simp; omega); intro v' w1 hown' hgrow _; have HO := Lib.hid hown'; have HG := Lib.hid hgrow; clear hown' hgrow)
              go_roundw
              case rel => exact ⟨k + 1, by omega, by go_num, HA.out.push (by omega) HYF.out HO.out HG.out⟩
              case measure => simp [intOf]; omega
      · have HK := Lib.hid (show ((R.take k).map madeF).map strV = (madeL R).map strV ∧ k = (madeL R).length by
          have h1 := HM.out
          have h2 : R.take k = R.take 12 := by
            rcases (show m = R.length ∨ m = 12 by omega) with h | h
            · rw [List.take_of_length_le (by omega), List.take_of_length_le (by omega)]
            · rw [show k = 12 by omega]
          unfold madeL
          rw [h2]
          refine ⟨rfl, ?_⟩
          rw [List.length_map, List.length_take]
          omega)
        have hkm : k = m := by omega
        subst hkm
        go_wp2
        go_ret
        refine ⟨_, rfl, ?_, HA.out.below⟩
        rw [← HK.out.1, ← HK.out.2]
        exact HA.out.outs
end Go.Proofs.YtjdckmhlgcjdgaaDoor
