/- The names of zones that the laws make of numbers: law07.part and law07.Zone return what partS and zoneL say, and such a name is a name of a zone. -/
import Derived.Test.YticmkjcaekhgpaaDoorOpen
import Derived.Outline
import Derived.Deep.QuietTactic
import Derived.BigQuiet
import Derived.IntWalk
namespace Go.Proofs.YticmkjcaekhgpaaDoor
open Go.RowKit

def al26 : ByteArray := ⟨#[65, 66, 67, 88, 89, 90, 97, 98, 99, 120, 121, 122, 48, 49, 50, 51, 52, 53, 54, 55, 56, 57, 95, 43, 46, 45]⟩
def modAt (i : Nat) : Nat := if i = 0 then 24 else 26
def partC (L : List UInt8) (i : Nat) : UInt8 := al26.data.toList.getD ((L.getD i 0).toNat % modAt i) 65
def partL (L : List UInt8) : List UInt8 := (List.range (min L.length 14)).map (partC L)
def partS (L : List UInt8) : List UInt8 := if L = [] then [81] else partL L

theorem al26_ext (j : Nat) (h : j < 26) : (al26.extract j (j + 1)).data.toList = [al26.data.toList.getD j 65] := by
  have := ext_snoc al26 j j (Nat.le_refl _) h
  rw [this, ext_list]
  simp only [Nat.sub_self, List.take_zero, List.nil_append]
  rw [getD_lt (by exact h)]
  rfl
theorem part_step (L : List UInt8) (k m : Nat) (s : ByteArray) (j : Nat) (hs : s.data.toList = (List.range k).map (partC L)) (hk : k + 1 ≤ m) (hj : j = (L.getD k 0).toNat % modAt k) :
    ∃ (k' : Nat) (s' : ByteArray), k' ≤ m ∧ Value.int .i64 ((k : Int) + 1) = .int .i64 (k' : Int) ∧ Value.string (s ++ al26.extract j (j + 1)) = .string s' ∧ s'.size = k' ∧ s'.data.toList = (List.range k').map (partC L) := by
  have hj26 : j < 26 := by
    rw [hj]; unfold modAt
    by_cases h : k = 0
    · rw [if_pos h]; omega
    · rw [if_neg h]; omega
  have e := al26_ext j hj26
  have hl : (s ++ al26.extract j (j + 1)).data.toList = (List.range (k + 1)).map (partC L) := by
    rw [ByteArray.data_append, Array.toList_append, e, hs, List.range_succ, List.map_append]
    simp [partC, hj]
  refine ⟨k + 1, _, hk, by simp, rfl, ?_, hl⟩
  rw [← len_eq, hl]
  simp

theorem part_fin (L : List UInt8) (W : World) (k m : Nat) (s : ByteArray) (j n : Nat) (hs : s.data.toList = (List.range k).map (partC L)) (hk : k + 1 ≤ m) (hj : j = (L.getD k 0).toNat % modAt k) :
    ∃ (k' : Nat) (s' : ByteArray) (n' : Nat), W.drewN n = W.drewN n' ∧ k' ≤ m ∧ Value.int .i64 ((k : Int) + 1) = .int .i64 (k' : Int) ∧ Value.string (s ++ al26.extract j (j + 1)) = .string s' ∧ s'.size = k' ∧ s'.data.toList = (List.range k').map (partC L) := by
  obtain ⟨k', s', h1, h2, h3, h4, h5⟩ := part_step L k m s j hs hk hj
  exact ⟨k', s', n, rfl, h1, h2, h3, h4, h5⟩
theorem partS_nil : partS [] = [81] := by unfold partS; rw [if_pos rfl]
theorem partS_ne (L : List UInt8) (h : L ≠ []) : partS L = partL L := by unfold partS; rw [if_neg h]
set_option maxHeartbeats 2000000 in
theorem part44 (L : List UInt8) (a : Option Addr) (c : Nat) (hc : L.length ≤ c) (hcm : c ≤ maxLen) (W : World) (hB : BytesAt W a L) :
    Calls Tryd.prog 44 #[.slice a L.length c] W fun e w' => ∃ o : ByteArray, e = .returned (.string o) ∧ o.data.toList = partS L ∧ ∃ n, W.drewN n = w' := by
  unfold maxLen at hcm
  have HB := Lib.hid hB
  clear hB
  by_cases h0 : L = []
  · have HP := Lib.hid (partS_nil)
    subst h0
    have hmin : min (0 : Int) 14 = 0 := by decide
    have hE : (⟨#[]⟩ : ByteArray).toList.isEmpty = true := by rw [ByteArray.toList_eq]; rfl
    go_enter Tryd.func44, Tryd.ntmps44
    go_wp2
    go_loop [3, 4, 5, 6, 13] (fun o _ _ _ i => i = .int .i64 0 ∧ o = .string ⟨#[]⟩) (fun _ _ _ _ _ => 0)
    case atStart => exact ⟨rfl, rfl⟩
    case round =>
      obtain ⟨rfl, rfl⟩ := hrel
      go_wp2
      go_ret
      exact ⟨_, rfl, by rw [HP.out], 0, rfl⟩
  · have hne : 0 < L.length := List.length_pos_iff.2 h0
    obtain ⟨b, off, rfl, hcell⟩ := HB.out.resolve_left h0
    have HC := Lib.hid hcell
    obtain ⟨m, hm⟩ : ∃ m, min L.length 14 = m := ⟨_, rfl⟩
    have hm1 : 1 ≤ m := by omega
    have hm14 : m ≤ 14 := by omega
    have hmL : m ≤ L.length := by omega
    have hmin : min (L.length : Int) 14 = (m : Int) := by omega
    have HM := Lib.hid hm
    have HP := Lib.hid (partS_ne L h0)
    clear hcell hm h0
    go_enter Tryd.func44, Tryd.ntmps44
    go_wp2
    go_loopw [3, 4, 5, 6, 13] (fun o _ _ _ i wr => ∃ (k : Nat) (s : ByteArray) (n : Nat), wr = W.drewN n ∧ k ≤ m ∧ i = .int .i64 k ∧ o = .string s ∧ s.size = k ∧ s.data.toList = (List.range k).map (partC L)) (fun _ _ _ _ i _ => 14 - (intOf i).toNat)
    case atStart => exact ⟨0, ByteArray.empty, 0, rfl, by omega, rfl, rfl, rfl, rfl⟩
    case round =>
      obtain ⟨k, s, n, rfl, hk, rfl, rfl, hsz, hs⟩ := hrel
      have HS := Lib.hid hs
      have hsz' : s.size ≤ 14 := by omega
      have HZ := Lib.hid hsz
      clear hs hsz
      by_cases h1 : k < m
      · obtain ⟨x, hx⟩ : ∃ c : UInt8, L.getD k 0 = c := ⟨_, rfl⟩
        have hxl : (x.toNat : Int) ≤ 255 := by have := x.toNat_lt; omega
        have hcell : W.cell? ⟨b, off + k, none⟩ = some (.int .u8 (x.toNat : Int)) := by rw [HC.out k (by omega), hx]
        have HX := Lib.hid hx
        clear hx
        by_cases h2 : k = 0
        · subst h2
          have hcell0 : W.cell? ⟨b, off, none⟩ = some (.int .u8 (x.toNat : Int)) := hcell
          clear hcell
          have hj : (x.toNat : Int).tmod 24 = ((x.toNat % 24 : Nat) : Int) := by
            simp [Int.tmod_eq_emod_of_nonneg]
          have hjl : x.toNat % 24 < 24 := Nat.mod_lt _ (by omega)
          go_wp2
          go_quiet (fail)
          go_wp2
          go_roundw
          case rel => exact part_fin L W 0 m s _ _ HS.out (by omega) (by rw [HX.out]; rfl)
          case measure => simp [intOf]
        · have hj : (x.toNat : Int).tmod 26 = ((x.toNat % 26 : Nat) : Int) := by
            simp [Int.tmod_eq_emod_of_nonneg]
          go_wp2
          go_quiet (fail)
          go_wp2
          go_roundw
          case rel => exact part_fin L W k m s _ _ HS.out (by omega) (by rw [HX.out]; unfold modAt; rw [if_neg h2])
          case measure => simp [intOf]; omega
      · have hse : s.toList.isEmpty = false := by
          have h := HZ.out
          rw [← len_eq] at h
          rw [ByteArray.toList_eq]
          cases hl : s.data.toList with
          | nil => rw [hl] at h; simp at h; omega
          | cons _ _ => rfl
        go_wp2
        go_ret
        refine ⟨s, rfl, ?_, n, rfl⟩
        rw [HP.out, HS.out, partL, HM.out, show k = m by omega]

def joinB : List (List UInt8) → List UInt8
  | [] => []
  | p :: r => p ++ r.flatMap (fun q => 47 :: q)
theorem joinB_snoc (l : List (List UInt8)) (p : List UInt8) (h : l ≠ []) : joinB (l ++ [p]) = joinB l ++ 47 :: p := by
  cases l with
  | nil => exact absurd rfl h
  | cons q r => simp [joinB, List.append_assoc]
def zoneParts (R : List (List UInt8)) : List (List UInt8) := (R.take 4).map partS
def zoneL (R : List (List UInt8)) : List UInt8 := if R = [] then [69, 116, 99, 47, 81] else joinB (zoneParts R)
def preZ (R : List (List UInt8)) (k : Nat) : List UInt8 := joinB ((R.take k).map partS)
theorem preZ_zero (R : List (List UInt8)) : preZ R 0 = [] := rfl
theorem preZ_one (R : List (List UInt8)) (h : 0 < R.length) : preZ R 1 = partS (R.getD 0 []) := by
  cases R with
  | nil => simp at h
  | cons x r => simp [preZ, joinB]
theorem preZ_succ (R : List (List UInt8)) (k : Nat) (h : k < R.length) (hk : 0 < k) : preZ R (k + 1) = preZ R k ++ 47 :: partS (R.getD k []) := by
  unfold preZ
  rw [show (R.take (k + 1)).map partS = (R.take k).map partS ++ [partS (R.getD k [])] by
    rw [List.take_succ_eq_append_getElem h, List.map_append, getD_lt h]; rfl]
  refine joinB_snoc _ _ ?_
  intro e
  have := congrArg List.length e
  rw [List.length_map, List.length_take, List.length_nil] at this
  omega
theorem zoneL_nil : zoneL [] = [69, 116, 99, 47, 81] := rfl
theorem zoneL_ne (R : List (List UInt8)) (h : R ≠ []) : zoneL R = preZ R (min R.length 4) := by
  unfold zoneL preZ zoneParts
  rw [if_neg h]
  by_cases h4 : R.length ≤ 4
  · rw [show min R.length 4 = R.length by omega, List.take_of_length_le h4, List.take_of_length_le (Nat.le_refl _)]
  · rw [show min R.length 4 = 4 by omega]
theorem partS_len (L : List UInt8) : 1 ≤ (partS L).length ∧ (partS L).length ≤ 14 := by
  unfold partS
  by_cases h : L = []
  · rw [if_pos h]; simp
  · rw [if_neg h]
    have := List.length_pos_iff.2 h
    simp [partL]
    omega
theorem al26_ok (j : Nat) (h : j < 26) : partP (al26.data.toList.getD j 65).toNat = true ∧ (j < 24 → (al26.data.toList.getD j 65) ≠ 46 ∧ (al26.data.toList.getD j 65) ≠ 45) := by
  have hall : (List.range 26).all (fun j => partP (al26.data.toList.getD j 65).toNat && (decide (24 ≤ j) || !(al26.data.toList.getD j 65 == 46) && !(al26.data.toList.getD j 65 == 45))) = true := by kernel_rfl
  have := List.all_eq_true.1 hall j (List.mem_range.2 h)
  generalize al26.data.toList.getD j 65 = x at this ⊢
  simp at this
  refine ⟨this.1, fun hj => ?_⟩
  rcases this.2 with h2 | h2
  · omega
  · exact h2
theorem partS_ok (L : List UInt8) : partOk (partS L) = true := by
  unfold partS
  by_cases h : L = []
  · rw [if_pos h]; kernel_rfl
  · rw [if_neg h]
    have hp := List.length_pos_iff.2 h
    have hb : ∀ c ∈ partL L, partP c.toNat = true := by
      intro c hc
      obtain ⟨i, _, rfl⟩ := List.mem_map.1 hc
      refine (al26_ok _ ?_).1
      unfold modAt
      by_cases h : i = 0
      · rw [if_pos h]; omega
      · rw [if_neg h]; omega
    have hl : (partL L).length = min L.length 14 := by simp [partL]
    obtain ⟨t, ht⟩ : ∃ t, partL L = partC L 0 :: t := by
      unfold partL
      rw [show min L.length 14 = (min L.length 14 - 1) + 1 by omega, List.range_succ_eq_map]
      exact ⟨_, rfl⟩
    have h0 : partC L 0 ≠ 46 ∧ partC L 0 ≠ 45 := (al26_ok _ (by unfold modAt; rw [if_pos rfl]; omega)).2 (by unfold modAt; rw [if_pos rfl]; omega)
    have ho : ofOk 1 14 partP (partL L) = true := by
      unfold ofOk
      simp only [hl]
      have : (partL L).all (fun c => partP c.toNat) = true := by
        rw [List.all_eq_true]; exact hb
      simp [this]
      omega
    unfold partOk
    rw [ho, ht]
    simp [h0.1, h0.2]
theorem splitB_joinB (p : List UInt8) (r : List (List UInt8)) (h : ∀ q ∈ p :: r, ∀ b ∈ q, b ≠ 47) : splitB 47 (joinB (p :: r)) = p :: r := by
  induction r generalizing p with
  | nil => simp only [joinB, List.flatMap_nil, List.append_nil]; exact splitB_one 47 p (h p (by simp))
  | cons q r ih =>
    rw [show joinB (p :: q :: r) = p ++ 47 :: joinB (q :: r) by simp [joinB], splitB_at 47 _ _ (h p (by simp)), ih q (fun x hx => h x (by simp only [List.mem_cons] at hx ⊢; exact .inr hx))]
theorem partOk_no47 {l : List UInt8} (h : partOk l = true) : ∀ b ∈ l, b ≠ 47 := by
  intro b hb e
  unfold partOk ofOk at h
  simp only [Bool.and_eq_true, List.all_eq_true] at h
  have := h.1.1.2 b hb
  rw [e] at this
  revert this
  decide
theorem zoneL_split (R : List (List UInt8)) : splitB 47 (zoneL R) = if R = [] then [[69, 116, 99], [81]] else zoneParts R := by
  by_cases h : R = []
  · rw [if_pos h, h]; kernel_rfl
  · rw [if_neg h]
    unfold zoneL
    rw [if_neg h]
    cases R with
    | nil => exact absurd rfl h
    | cons x r =>
      refine splitB_joinB _ _ ?_
      intro q hq
      obtain ⟨y, _, rfl⟩ := List.mem_map.1 (show q ∈ ((x :: r).take 4).map partS from hq)
      exact partOk_no47 (partS_ok y)
theorem preZ_len (R : List (List UInt8)) (k : Nat) (h : k ≤ R.length) : (preZ R k).length ≤ 15 * k - 1 ∧ (0 < k → 1 ≤ (preZ R k).length) := by
  induction k with
  | zero => exact ⟨by simp [preZ_zero], fun h => absurd h (by omega)⟩
  | succ k ih =>
    obtain ⟨h1, h2⟩ := ih (by omega)
    by_cases hk : k = 0
    · subst hk
      rw [preZ_one R (by omega)]
      have := partS_len (R.getD 0 [])
      omega
    · rw [preZ_succ R k (by omega) (by omega)]
      have := partS_len (R.getD k [])
      simp only [List.length_append, List.length_cons]
      omega
theorem zoneL_len (R : List (List UInt8)) : 1 ≤ (zoneL R).length ∧ (zoneL R).length ≤ 59 := by
  by_cases h : R = []
  · rw [h, zoneL_nil]; simp
  · rw [zoneL_ne R h]
    have hp := List.length_pos_iff.2 h
    have := preZ_len R (min R.length 4) (by omega)
    omega
theorem zoneL_ok (R : List (List UInt8)) : zoneOk (zoneL R) = true := by
  unfold zoneOk
  rw [zoneL_split R, decide_eq_true (show (zoneL R).length ≤ 60 by have := zoneL_len R; omega), Bool.true_and]
  by_cases h : R = []
  · rw [if_pos h]; kernel_rfl
  · rw [if_neg h, List.all_eq_true]
    intro q hq
    obtain ⟨y, _, rfl⟩ := List.mem_map.1 hq
    exact partS_ok y

theorem RowsAt.drewN {W : World} {a : Option Addr} {R : List (List UInt8)} (h : RowsAt W a R) (n : Nat) : RowsAt (W.drewN n) a R := h

theorem zone_step (R : List (List UInt8)) (W : World) (k m : Nat) (s o : ByteArray) (n : Nat) (hs : s.data.toList = preZ R k) (hk : k + 1 ≤ m) (hm : m ≤ R.length) (hk0 : 0 < k) (ho : o.data.toList = partS (R.getD k [])) :
    ∃ (k' : Nat) (s' : ByteArray) (n' : Nat), W.drewN n = W.drewN n' ∧ k' ≤ m ∧ Value.int .i64 ((k : Int) + 1) = .int .i64 (k' : Int) ∧ Value.string (s ++ ⟨#[47]⟩ ++ o) = .string s' ∧ s'.size ≤ 15 * k' ∧ s'.data.toList = preZ R k' := by
  have hl : (s ++ ⟨#[47]⟩ ++ o).data.toList = preZ R (k + 1) := by
    rw [preZ_succ R k (by omega) hk0, ByteArray.data_append, ByteArray.data_append, Array.toList_append, Array.toList_append, ho, hs, List.append_assoc]
    rfl
  refine ⟨k + 1, _, n, rfl, hk, by simp, rfl, ?_, hl⟩
  rw [← len_eq, hl]
  have := (preZ_len R (k + 1) (by omega)).1
  omega
theorem zone_step0 (R : List (List UInt8)) (W : World) (m : Nat) (s o : ByteArray) (n : Nat) (hs : s.data.toList = preZ R 0) (hk : 1 ≤ m) (hm : m ≤ R.length) (ho : o.data.toList = partS (R.getD 0 [])) :
    ∃ (k' : Nat) (s' : ByteArray) (n' : Nat), W.drewN n = W.drewN n' ∧ k' ≤ m ∧ Value.int .i64 1 = .int .i64 (k' : Int) ∧ Value.string (s ++ o) = .string s' ∧ s'.size ≤ 15 * k' ∧ s'.data.toList = preZ R k' := by
  have hl : (s ++ o).data.toList = preZ R 1 := by
    rw [preZ_one R (by omega), ByteArray.data_append, Array.toList_append, ho, hs]
    rfl
  refine ⟨1, _, n, rfl, hk, rfl, rfl, ?_, hl⟩
  rw [← len_eq, hl]
  have := (preZ_len R 1 (by omega)).1
  omega
set_option maxHeartbeats 2000000 in
theorem zone21 (R : List (List UInt8)) (a : Option Addr) (c : Nat) (hc : R.length ≤ c) (hcm : c ≤ maxLen) (W : World) (hB : RowsAt W a R) :
    Calls Tryd.prog 21 #[.slice a R.length c] W fun e w' => ∃ o : ByteArray, e = .returned (.string o) ∧ o.data.toList = zoneL R ∧ ∃ n, W.drewN n = w' := by
  unfold maxLen at hcm
  have HB := Lib.hid hB
  clear hB
  by_cases h0 : R = []
  · have HP := Lib.hid (zoneL_nil)
    subst h0
    have hmin : min (0 : Int) 4 = 0 := by decide
    have hE : (⟨#[]⟩ : ByteArray).toList.isEmpty = true := by rw [ByteArray.toList_eq]; rfl
    go_enter Tryd.func21, Tryd.ntmps21
    go_wp2
    go_loop [3, 4, 5, 12] (fun o _ _ i => i = .int .i64 0 ∧ o = .string ⟨#[]⟩) (fun _ _ _ _ => 0)
    case atStart => exact ⟨rfl, rfl⟩
    case round =>
      obtain ⟨rfl, rfl⟩ := hrel
      go_wp2
      go_ret
      exact ⟨_, rfl, by rw [HP.out], 0, rfl⟩
  · have hne : 0 < R.length := List.length_pos_iff.2 h0
    obtain ⟨b, off, rfl, hcell⟩ := HB.out.resolve_left h0
    have HC := Lib.hid hcell
    obtain ⟨m, hm⟩ : ∃ m, min R.length 4 = m := ⟨_, rfl⟩
    have hm1 : 1 ≤ m := by omega
    have hm4 : m ≤ 4 := by omega
    have hmL : m ≤ R.length := by omega
    have hmin : min (R.length : Int) 4 = (m : Int) := by omega
    have HM := Lib.hid hm
    have HP := Lib.hid (zoneL_ne R h0)
    clear hcell hm h0
    go_enter Tryd.func21, Tryd.ntmps21
    go_wp2
    go_loopw [3, 4, 5, 12] (fun o _ _ i wr => ∃ (k : Nat) (s : ByteArray) (n : Nat), wr = W.drewN n ∧ k ≤ m ∧ i = .int .i64 k ∧ o = .string s ∧ s.size ≤ 15 * k ∧ s.data.toList = preZ R k) (fun _ _ _ i _ => 4 - (intOf i).toNat)
    case atStart => exact ⟨0, ByteArray.empty, 0, rfl, by omega, rfl, rfl, by simp, rfl⟩
    case round =>
      obtain ⟨k, s, n, rfl, hk, rfl, rfl, hsz, hs⟩ := hrel
      have HS := Lib.hid hs
      have hsz' : s.size ≤ 60 := by omega
      clear hs hsz
      by_cases h1 : k < m
      · obtain ⟨L, hL⟩ : ∃ L : List UInt8, R.getD k [] = L := ⟨_, rfl⟩
        obtain ⟨x, cc, hcell, hcc, hccm, hx⟩ := HC.out k (by omega)
        rw [hL] at hcell hcc hx
        have HX := Lib.hid (show BytesAt (W.drewN n) x L from hx)
        have HL := Lib.hid hL
        clear hx hL
        by_cases h2 : k = 0
        · subst h2
          have hcell0 : W.cell? ⟨b, off, none⟩ = some (.slice x L.length cc) := hcell
          clear hcell
          go_wp2_with fail
          refine (part44 L x cc hcc hccm (W.drewN n) HX.out).mono ?_
          rintro e V ⟨o, rfl, ho, n2, rfl⟩
          have hol : o.size ≤ 14 := by rw [← len_eq, ho]; exact (partS_len L).2
          have HO := Lib.hid ho
          clear ho
          go_wp2
          go_roundw
          case rel => exact zone_step0 R W m s o _ HS.out hm1 hmL (by rw [HL.out]; exact HO.out)
          case measure => simp [intOf]
        · go_wp2_with fail
          refine (part44 L x cc hcc hccm (W.drewN n) HX.out).mono ?_
          rintro e V ⟨o, rfl, ho, n2, rfl⟩
          have hol : o.size ≤ 14 := by rw [← len_eq, ho]; exact (partS_len L).2
          have HO := Lib.hid ho
          clear ho
          go_wp2
          go_roundw
          case rel => exact zone_step R W k m s o _ HS.out (by omega) hmL (by omega) (by rw [HL.out]; exact HO.out)
          case measure => simp [intOf]; omega
      · have hse : s.toList.isEmpty = false := by
          have h := HS.out
          rw [ByteArray.toList_eq, h]
          have := (preZ_len R k (by omega)).2 (by omega)
          cases hl : preZ R k with
          | nil => rw [hl] at this; simp at this
          | cons _ _ => rfl
        go_wp2
        go_ret
        refine ⟨s, rfl, ?_, n, rfl⟩
        rw [HP.out, HS.out, HM.out, show k = m by omega]
end Go.Proofs.YticmkjcaekhgpaaDoor
