/- name.of and its closures. -/
import Derived.Test.YtdeompnaojiajaaDoorRows
import Derived.WalkKit
import Derived.WalkSpells
import Derived.WalkLawsBesides
import Derived.Outline
import Derived.Deep.QuietTactic
import Derived.BigQuiet
import Derived.Lib.Hide
namespace Go.Proofs.YtdeompnaojiajaaDoor
open Go.RowKit
def kset (a : Array Value) (i : Nat) (v : Int) : Array Value := a.setIfInBounds i (.int .u8 v)
noncomputable def kA : Nat → Array Value
  | 0 => Tryd.zeroCells85
  | k + 1 => kset (kset (kA k) (65 + k) 1) (97 + k) 1
noncomputable def kB : Nat → Array Value
  | 0 => kA 26
  | k + 1 => kset (kB k) (48 + k) 2
noncomputable def kFin : Array Value := kset (kset (kset (kset (kB 10) 95 4) 45 8) 46 16) 43 16
theorem kA_size (k : Nat) : (kA k).size = 256 := by
  induction k with
  | zero => kernel_rfl
  | succ k ih => simp [kA, kset, ih]
theorem kB_size (k : Nat) : (kB k).size = 256 := by
  induction k with
  | zero => exact kA_size 26
  | succ k ih => simp [kB, kset, ih]
theorem kFin_size : kFin.size = 256 := by simp [kFin, kset, kB_size]
theorem kinfo : (Tryd.prog.info? 85).map (·.size) = some kFin.size := by rw [kFin_size]; kernel_rfl
theorem kset_one (a : Array Value) (i : Nat) (v : Int) (h : a.all (·.oneCell') = true) : (kset a i v).all (·.oneCell') = true := by
  rw [Array.all_eq_true_iff_forall_mem] at *
  intro x hx
  rcases Array.mem_or_eq_of_mem_setIfInBounds hx with h' | h'
  · exact h x h'
  · subst h'; rfl
theorem kA_one (k : Nat) : (kA k).all (·.oneCell') = true := by
  induction k with
  | zero => kernel_rfl
  | succ k ih => exact kset_one _ _ _ (kset_one _ _ _ ih)
theorem kB_one (k : Nat) : (kB k).all (·.oneCell') = true := by
  induction k with
  | zero => exact kA_one 26
  | succ k ih => exact kset_one _ _ _ ih
theorem kFin_one : kFin.all (·.oneCell') = true := kset_one _ _ _ (kset_one _ _ _ (kset_one _ _ _ (kset_one _ _ _ (kB_one 10))))
theorem setRow_under (w : World) (a b : Array Value) (t : TypeId) (o : Obj) : ((w.alloc (.cells a t)).alloc o).setRow w.heap.size b = (w.alloc (.cells b t)).alloc o := by
  unfold World.setRow World.alloc
  congr 1
  apply Array.ext_getElem?
  intro k
  simp only [Array.getElem?_modify, Array.getElem?_push, Array.size_push]
  by_cases h1 : k = w.heap.size
  · subst h1; simp
  · by_cases h2 : k = w.heap.size + 1
    · subst h2; simp
    · simp [h1, h2]
      by_cases h3 : w.heap.size = k
      · omega
      · simp [h3]
theorem some_of (a : Array Value) (i : Nat) (h : i < a.size) : ∃ v, a[i]? = some v := ⟨a[i], by simp [h]⟩
set_option maxHeartbeats 400000 in
theorem kinds_any (w : World) :
    Calls Tryd.prog 57 #[] w fun e w' => e = .returned (.agg kFin) ∧ (w.alloc (.cells kFin 85)).alloc (.cells kFin 85) = w' := by
  go_enter Tryd.func57, Tryd.ntmps57
  go_wp2
  go_loopw [2, 4] (fun _ i wr => ∃ k : Nat, k ≤ 26 ∧ i = .int .i64 k ∧ wr = (w.alloc (.cells Tryd.zeroCells85 85)).alloc (.cells (kA k) 85)) (fun _ i _ => 26 - (intOf i).toNat)
  case atStart => exact ⟨0, by omega, rfl, rfl⟩
  case round =>
    obtain ⟨k, hk, rfl, rfl⟩ := hrel
    by_cases hlt : k < 26
    · obtain ⟨v1, h1⟩ := some_of (kA k) (65 + k) (by rw [kA_size]; omega)
      obtain ⟨v2, h2⟩ := some_of (kA k) (97 + k) (by rw [kA_size]; omega)
      go_wp2
      go_roundw
      case rel => exact ⟨k + 1, by omega, by go_num, rfl⟩
      case measure => simp [intOf]; omega
    · have hk26 : k = 26 := by omega
      subst hk26
      go_wp2
      go_loopw [3, 14] (fun _ i wr => ∃ k : Nat, k ≤ 10 ∧ i = .int .i64 k ∧ wr = (w.alloc (.cells Tryd.zeroCells85 85)).alloc (.cells (kB k) 85)) (fun _ i _ => 10 - (intOf i).toNat)
      case atStart => exact ⟨0, by omega, rfl, rfl⟩
      case round =>
        obtain ⟨k, hk, rfl, rfl⟩ := hrel
        by_cases hlt : k < 10
        · obtain ⟨v1, h1⟩ := some_of (kB k) (48 + k) (by rw [kB_size]; omega)
          go_wp2
          go_roundw
          case rel => exact ⟨k + 1, by omega, by go_num, rfl⟩
          case measure => simp [intOf]; omega
        · have hk26 : k = 10 := by omega
          subst hk26
          obtain ⟨v1, h1⟩ := some_of (kB 10) 95 (by rw [kB_size]; omega)
          obtain ⟨v2, h2⟩ := some_of (kB 10) 45 (by rw [kB_size]; omega)
          obtain ⟨v3, h3⟩ := some_of (kB 10) 46 (by rw [kB_size]; omega)
          obtain ⟨v4, h4⟩ := some_of (kB 10) 43 (by rw [kB_size]; omega)
          have HF : Hid (kFin = ((((kB 10).setIfInBounds 95 (.int .u8 4)).setIfInBounds 45 (.int .u8 8)).setIfInBounds 46 (.int .u8 16)).setIfInBounds 43 (.int .u8 16)) := rfl
          have hki := kinfo
          have hone := kFin_one
          have hz : Tryd.zeroCells85.size = kFin.size := by rw [kFin_size]; kernel_rfl
          have Hsz := Lib.hid hz
          clear hz
          rw [HF.out] at hki hone Hsz
          generalize kB 10 = KB at *
          go_wp2_with (first | (refine wpList_load_row rfl 85 _ rfl (w.heap.size + 1) rfl 85 ?cs (0, 0) _ ?hg Tryd.underlying85 rfl ?hi ?_; (case hg => exact heap_alloc2_new w _ _); (case hi => exact hki)) | (refine wpList_store_row rfl 85 _ _ rfl w.heap.size _ rfl rfl 85 Tryd.zeroCells85 ?hg2 ?hi2 ?hold ?h1 ?_; (case hg2 => exact heap_alloc2_old w _ _); (case hi2 => exact hki); (case hold => exact Hsz.out); (case h1 => exact hone)))
          rw [setRow_under, ← HF.out]
          exact bodyPost_ret (v := .agg kFin) (results_cell_row rfl _ _ w.heap.size 85 kFin (0, 0) _ rfl (heap_alloc2_old w _ _) Tryd.underlying85 rfl kinfo) rfl ⟨rfl, rfl⟩

def letB (n : Nat) : Bool := (decide (65 ≤ n) && decide (n ≤ 90)) || (decide (97 ≤ n) && decide (n ≤ 122))
def digB (n : Nat) : Bool := decide (48 ≤ n) && decide (n ≤ 57)
def kindOf (n : Nat) : Int := if letB n then 1 else if digB n then 2 else if n = 95 then 4 else if n = 45 then 8 else if n = 46 then 16 else if n = 43 then 16 else 0
theorem kFin_list : kFin.toList = (List.range 256).map (fun n => Value.int .u8 (kindOf n)) := by kernel_rfl
theorem kFin_at (n : Nat) (h : n < 256) : kFin[n]? = some (.int .u8 (kindOf n)) := by
  rw [← Array.getElem?_toList, kFin_list]
  simp [h]

/-- a function value that name.of has made, in a world -/
def IsOf (w : World) (least most mask : Int) (v : Value) : Prop :=
  ∃ a b c d : Nat, v = .func (.func 58) #[] #[.pointer (some ⟨a, 0, none⟩), .pointer (some ⟨b, 0, none⟩), .pointer (some ⟨c, 0, none⟩), .pointer (some ⟨d, 0, none⟩)] ∧
    w.cell? ⟨a, 0, none⟩ = some (.int .i64 least) ∧ w.cell? ⟨b, 0, none⟩ = some (.int .i64 most) ∧ (∀ n : Nat, n < 256 → w.cell? ⟨c, n, none⟩ = some (.int .u8 (kindOf n))) ∧ w.cell? ⟨d, 0, none⟩ = some (.int .u8 mask)

attribute [irreducible] kFin kA kB
theorem heap_alloc_at {w : World} {o : Obj} {n : Nat} (h : n = w.heap.size) : (w.alloc o).heap[n]? = some o := by rw [h]; exact heap_alloc_new w o
theorem setRow_at {w : World} {a b : Array Value} {t : TypeId} {n : Nat} (h : n = w.heap.size) : (w.alloc (.cells a t)).setRow n b = w.alloc (.cells b t) := by
  subst h
  unfold World.setRow World.alloc
  congr 1
  apply Array.ext_getElem?
  intro k
  simp only [Array.getElem?_modify, Array.getElem?_push]
  by_cases h1 : k = w.heap.size
  · subst h1; simp
  · have h2 : ¬ w.heap.size = k := fun e => h1 e.symm
    simp [h1, h2]
theorem of_any (least most mask : Int) (w : World) :
    Calls Tryd.prog 48 #[.int .i64 least, .int .i64 most, .int .u8 mask] w fun e w' =>
      ∃ v, e = .returned v ∧ IsOf w' least most mask v ∧ Below w.heap.size w w' := by
  have hki := kinfo
  have hone := kFin_one
  have hat := fun n h => kFin_at n h
  have hsz : Tryd.zeroCells85.size = kFin.size := by rw [kFin_size]; kernel_rfl
  have Hsz := Lib.hid hsz
  clear hsz
  have HA := Lib.hid hat
  clear hat
  go_enter Tryd.func48, Tryd.ntmps48
  go_wp2_with (first | (go_at_call 57; refine (kinds_any _).mono ?_; rintro e w' ⟨rfl, rfl⟩) | (refine wpList_store_row rfl 85 _ _ rfl _ _ rfl rfl 85 Tryd.zeroCells85 ?hg2 ?hi2 ?hold ?h1 ?_; (case hg2 => exact heap_alloc_at (by simp)); (case hi2 => exact hki); (case hold => exact Hsz.out); (case h1 => exact hone)))
  rw [setRow_at (by simp)]
  go_ret
  refine ⟨_, rfl, ⟨_, _, _, _, rfl, ?_, ?_, ?_, ?_⟩, ?_⟩
  · go_simp
  · go_simp
  · intro n hn
    rw [World.cell?_alloc_at _ _ _ _ (by simp)]
    exact HA.out n hn
  · go_simp
  · exact ((((((Below.refl _ _).alloc (Nat.le_refl _) _).alloc (by simp) _).alloc (by simp; omega) _).alloc (by simp; omega) _).alloc (by simp; omega) _).alloc (by simp; omega) _

def ofOk (least most : Int) (p : Nat → Bool) (l : List UInt8) : Bool := decide (least ≤ l.length) && decide ((l.length : Int) ≤ most) && l.all (fun c => p c.toNat)

theorem ret_bool {a b : Bool} (h : a = b) : Ending.returned (.bool a) = Ending.returned (.bool b) := by rw [h]
theorem len_eq (s : ByteArray) : s.data.toList.length = s.size := rfl
theorem ofOk_low {least most : Int} {p : Nat → Bool} {s : ByteArray} (h : (s.size : Int) < least) : ofOk least most p s.data.toList = false := by
  unfold ofOk; rw [len_eq, decide_eq_false (by omega)]; rfl
theorem ofOk_high {least most : Int} {p : Nat → Bool} {s : ByteArray} (h : most < (s.size : Int)) : ofOk least most p s.data.toList = false := by
  unfold ofOk; rw [len_eq, decide_eq_false (p := (s.size : Int) ≤ most) (by omega), Bool.and_false, Bool.false_and]
theorem ofOk_bad {least most : Int} {p : Nat → Bool} {s : ByteArray} (k : Nat) (h : k < s.size) (hb : p s[k].toNat = false) : ofOk least most p s.data.toList = false := by
  unfold ofOk
  have : s.data.toList.all (fun c => p c.toNat) = false := by
    rw [List.all_eq_false]
    exact ⟨s[k], by simp [ByteArray.getElem_eq_getElem_data], by simpa using hb⟩
  rw [this, Bool.and_false]
theorem ofOk_good {least most : Int} {p : Nat → Bool} {s : ByteArray} (hl : least ≤ (s.size : Int)) (hm : (s.size : Int) ≤ most) (h : s.data.toList.all (fun c => p c.toNat) = true) : ofOk least most p s.data.toList = true := by
  unfold ofOk; rw [len_eq, decide_eq_true hl, decide_eq_true hm, h]; rfl
theorem take_snoc_all (s : ByteArray) (k : Nat) (h : k < s.size) (p : UInt8 → Bool) : (s.data.toList.take (k + 1)).all p = ((s.data.toList.take k).all p && p s[k]) := by
  rw [List.take_succ_eq_append_getElem (by simpa using h)]
  simp
  rfl
theorem closure_any (least most mask : Int) (p : Nat → Bool) (hp : ∀ n, (bits BinOp.and IntKind.u8 (kindOf n) mask == 0) = !(p n)) (s : ByteArray) (hs : s.size ≤ maxLen)
    (a b c d : Nat) (w : World) (h1 : w.cell? ⟨a, 0, none⟩ = some (.int .i64 least)) (h2 : w.cell? ⟨b, 0, none⟩ = some (.int .i64 most))
    (h3 : ∀ n : Nat, n < 256 → w.cell? ⟨c, n, none⟩ = some (.int .u8 (kindOf n))) (h4 : w.cell? ⟨d, 0, none⟩ = some (.int .u8 mask)) :
    Calls Tryd.prog 58 #[.string s, .pointer (some ⟨a, 0, none⟩), .pointer (some ⟨b, 0, none⟩), .pointer (some ⟨c, 0, none⟩), .pointer (some ⟨d, 0, none⟩)] w fun e w' =>
      e = .returned (.bool (ofOk least most p s.data.toList)) ∧ ∃ n, w.drewN n = w' := by
  unfold maxLen at hs
  have H3 := Lib.hid h3
  have HP := Lib.hid hp
  clear h3 hp
  go_enter Tryd.func58, Tryd.ntmps58
  by_cases hl : (s.size : Int) < least
  · go_wp2
    go_ret
    exact ⟨ret_bool (ofOk_low hl).symm, 0, rfl⟩
  · by_cases hm : most < (s.size : Int)
    · go_wp2
      go_ret
      exact ⟨ret_bool (ofOk_high hm).symm, 0, rfl⟩
    · go_wp2
      go_loopw [7, 20] (fun _ i wr => ∃ k n : Nat, k ≤ s.size ∧ i = .int .i64 k ∧ wr = w.drewN n ∧ (s.data.toList.take k).all (fun c => p c.toNat) = true) (fun _ i _ => s.size - (intOf i).toNat)
      case atStart => exact ⟨0, 0, by omega, rfl, rfl, rfl⟩
      case round =>
        obtain ⟨k, n, hk, rfl, rfl, hall⟩ := hrel
        by_cases hlt : k < s.size
        · have hc : s[k].toNat < 256 := s[k].toNat_lt
          have h3 := H3.out _ hc
          have hki : (k : Int) < (s.size : Int) := by omega
          cases hpk : p s[k].toNat
          · have hb : (bits BinOp.and IntKind.u8 (kindOf s[k].toNat) mask == 0) = true := by rw [HP.out, hpk]; rfl
            have Hpk := Lib.hid hpk
            clear hpk
            go_wp2
            go_quiet (fail)
            go_wp2
            go_ret
            exact ⟨ret_bool (ofOk_bad k hlt Hpk.out).symm, n + nq, by simp⟩
          · have hb : (bits BinOp.and IntKind.u8 (kindOf s[k].toNat) mask == 0) = false := by rw [HP.out, hpk]; rfl
            have Hpk := Lib.hid hpk
            clear hpk
            go_wp2
            go_quiet (fail)
            go_wp2
            go_roundw
            case rel => exact ⟨k + 1, n + nq, by omega, by go_num, by first | rfl | simp, by rw [take_snoc_all s k hlt, hall, Bool.true_and]; exact Hpk.out⟩
            case measure => simp [intOf]; omega
        · go_wp2
          go_ret
          rw [List.take_of_length_le (by rw [len_eq]; omega)] at hall
          exact ⟨ret_bool (ofOk_good (by omega) (by omega) hall).symm, n, rfl⟩
end Go.Proofs.YtdeompnaojiajaaDoor
