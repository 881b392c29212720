/- The functions lexeme.Lines and its reference, called with any text, return the lines, the number and the error that linesL, linesN and linesE say; no block that was there changes. -/
import Derived.Test.YtjdckmhlgcjdgaaDoorLxM
import Derived.Lib.CountLaws
import Derived.Lib.SplitLaws
import Derived.Lib.IndexBytes
namespace Go.Proofs.YtjdckmhlgcjdgaaDoor.Lx
open Go.RowKit
open Lex (strV bytesOf)

theorem ext_list (s : ByteArray) (a b : Nat) : (s.extract a b).data.toList = (s.data.toList.drop a).take (b - a) := by
  rw [ByteArray.data_extract, Array.toList_extract, List.extract_eq_take_drop]
/-- strings.Split by one byte, as lists -/
theorem split_lists (c : UInt8) : ∀ (k : Nat) (s : ByteArray), Lib.countB s ⟨#[c]⟩ = k → (Lib.splitB ⟨#[c]⟩ 0 k s).map (·.data.toList) = splitB c s.data.toList := by
  intro k
  have h1 : 0 < (⟨#[c]⟩ : ByteArray).size := Nat.zero_lt_one
  induction k with
  | zero =>
    intro s h
    have hi : Lib.indexByte s.data.toList c = -1 := by
      have hg := Lib.indexByte_ge s.data.toList c
      rcases (show Lib.indexByte s.data.toList c < 0 ∨ 0 ≤ Lib.indexByte s.data.toList c by omega) with h0 | h0
      · omega
      · obtain ⟨i, hi⟩ : ∃ i : Nat, Lib.indexByte s.data.toList c = i := ⟨_, (Int.toNat_of_nonneg h0).symm⟩
        have := Lib.countB_hit s ⟨#[c]⟩ i h1 (by rw [← hi]; exact Lib.index_one _ _)
        omega
    rw [Lib.splitB_zero, splitB_none c _ (by omega)]
    rfl
  | succ k ih =>
    intro s h
    have hg := Lib.indexByte_ge s.data.toList c
    rcases (show Lib.indexByte s.data.toList c < 0 ∨ 0 ≤ Lib.indexByte s.data.toList c by omega) with h0 | h0
    · have hm : Lib.indexB s ⟨#[c]⟩ = -1 := by
        have : Lib.indexB s ⟨#[c]⟩ = Lib.indexByte s.data.toList c := Lib.index_one _ _
        omega
      rw [Lib.countB_miss _ _ hm] at h
      omega
    · obtain ⟨i, hi⟩ : ∃ i : Nat, Lib.indexByte s.data.toList c = i := ⟨_, (Int.toNat_of_nonneg h0).symm⟩
      have hx : Lib.indexB s ⟨#[c]⟩ = i := by rw [← hi]; exact Lib.index_one _ _
      have hc := Lib.countB_hit s ⟨#[c]⟩ i h1 hx
      obtain ⟨_, hs⟩ := splitB_some c _ i hi
      rw [Lib.splitB_hit _ _ _ _ _ hx, List.map_cons, ih _ (by omega), hs]
      rw [ext_list, ext_list]
      simp only [Nat.add_zero, Nat.sub_zero, List.drop_zero]
      congr 1
      congr 1
      rw [show (⟨#[c]⟩ : ByteArray).size = 1 from rfl]
      rw [List.take_of_length_le]
      rw [List.length_drop, Lex.len_eq]
      omega
theorem split_bytes (c : UInt8) (s : ByteArray) : Lib.splitB ⟨#[c]⟩ 0 (Lib.countB s ⟨#[c]⟩) s = (splitB c s.data.toList).map bytesOf := by
  rw [← split_lists c _ s rfl, List.map_map]
  conv => lhs; rw [← List.map_id (Lib.splitB ⟨#[c]⟩ 0 (Lib.countB s ⟨#[c]⟩) s)]
  apply List.map_congr_left
  intro x _
  rfl
/-- strings.Split by one byte: a slice of its own -/
theorem split_is (c : UInt8) (s : ByteArray) (hs : s.size < 4294967281) (w : World) (hm : ∃ m, w.cell? ⟨0, 0, none⟩ = some (.int .i64 m)) :
    Calls Tryd.prog 25 #[.string s, .string ⟨#[c]⟩] w fun e w' => ∃ v, e = .returned v ∧ StrsV w' v (splitB c s.data.toList) ∧ Below w.heap.size w w' := by
  obtain ⟨m, hm⟩ := hm
  refine (Tryd.strings_Split s ⟨#[c]⟩ m w hs hm (Nat.le_refl 1)).mono ?_
  rintro e V ⟨rfl, rfl⟩
  have h1 : 0 < (⟨#[c]⟩ : ByteArray).size := Nat.zero_lt_one
  have hlen : Lib.countB s ⟨#[c]⟩ + 1 = (splitB c s.data.toList).length := by
    have := split_bytes c s
    have hn := Lib.splitB_all ⟨#[c]⟩ h1 0 _ s rfl
    rw [this] at hn
    simpa using hn.symm
  have hle := Lib.countB_le ⟨#[c]⟩ h1 s.size s (Nat.le_refl _)
  refine ⟨_, rfl, ?_, (Below.refl _ _).alloc (Nat.le_refl _) _⟩
  rw [split_bytes, hlen]
  exact StrsV.of_block (heap_alloc_new w _) (Nat.le_refl _) (by unfold maxLen; omega) (by rw [List.toList_toArray, List.map_map, List.take_of_length_le (by simp)]; rfl)

theorem long30 (p : List UInt8) (hp : p.length ≤ 9223372036854775807) (w : World) :
    Calls Tryd.prog 30 #[.string (bytesOf p)] w fun e w' => e = .returned (.bool (tooLong p)) ∧ w = w' := by
  have hsz : (bytesOf p).size = p.length := rfl
  have HS := Lib.hid hsz
  have hb : (bytesOf p).size ≤ 9223372036854775807 := by omega
  generalize bytesOf p = s at *
  clear hsz
  go_enter Tryd.func30, Tryd.ntmps30
  go_wp2
  go_ret
  refine ⟨Lex.ret_bool ?_, rfl⟩
  unfold tooLong
  rw [← HS.out, decide_eq_decide]
  omega

theorem rawL_le (l : List UInt8) : ∀ p ∈ rawL l, p.length ≤ l.length := by
  have h1 : ∀ (l : List UInt8) (p : List UInt8), p ∈ splitB 10 l → p.length ≤ l.length := by
    intro l
    induction l with
    | nil => intro p hp; simp [splitB] at hp; subst hp; simp
    | cons c r ih =>
      intro p hp
      simp only [splitB] at hp
      split at hp
      · rcases List.mem_cons.1 hp with rfl | h
        · simp
        · have := ih p h; simp; omega
      · cases hs : splitB 10 r with
        | nil => exact absurd hs (splitB_ne 10 r)
        | cons x y =>
          rw [hs] at hp ih
          simp only at hp
          rcases List.mem_cons.1 hp with rfl | h
          · have := ih x (by simp); simp; omega
          · have := ih p (by simp [h]); simp; omega
  have h2 : ∀ l : List UInt8, (trimNL l).length ≤ l.length := by
    intro l
    induction l with
    | nil => simp [trimNL]
    | cons c r ih =>
      cases r with
      | nil => simp only [trimNL]; split <;> simp
      | cons d t => simp only [trimNL, List.length_cons] at *; omega
  intro p hp
  have := h1 _ p hp
  have := h2 l
  omega

/-- what Lines hands back -/
def LinesPost (l : List UInt8) (w : World) (e : Ending) (w' : World) : Prop :=
  ∃ v : Value, e = .returned (.tuple #[v, .int .i64 (linesN l), .int .i64 (linesE l)]) ∧ StrsV w' v (linesL l) ∧ Below w.heap.size w w'
theorem post_big {l : List UInt8} {w w' : World} (h : 8388608 < l.length) (hB : Below w.heap.size w w') : LinesPost l w (.returned (.tuple #[.slice none 0 0, .int .i64 1, .int .i64 6])) w' := by
  refine ⟨_, ?_, by unfold linesL; rw [if_pos (.inl h)]; exact StrsV.nil _, hB⟩
  unfold linesN linesE
  rw [if_pos h, if_pos (.inl h)]
theorem post_long {l : List UInt8} {w w' : World} {n : Int} (h : ¬ 8388608 < l.length) (ha : (rawL l).any tooLong = true) (hn : n = ((rawL l).findIdx tooLong : Int) + 1) (hB : Below w.heap.size w w') : LinesPost l w (.returned (.tuple #[.slice none 0 0, .int .i64 n, .int .i64 6])) w' := by
  refine ⟨_, ?_, by unfold linesL; rw [if_pos (.inr ha)]; exact StrsV.nil _, hB⟩
  unfold linesN linesE
  rw [if_neg h, if_pos ha, if_pos (.inr ha), hn]
theorem post_lines {l : List UInt8} {w w' : World} {v : Value} (h : ¬ 8388608 < l.length) (ha : (rawL l).any tooLong = false) (hv : StrsV w' v (rawL l)) (hB : Below w.heap.size w w') : LinesPost l w (.returned (.tuple #[v, .int .i64 0, .int .i64 0])) w' := by
  have hn : ¬ (8388608 < l.length ∨ (rawL l).any tooLong = true) := by rw [ha]; simpa using h
  refine ⟨_, ?_, by unfold linesL; rw [if_neg hn]; exact hv, hB⟩
  unfold linesN linesE
  rw [if_neg h, if_neg (by rw [ha]; simp), if_neg hn]

set_option maxHeartbeats 1000000 in
theorem lines_any (s : ByteArray) (hs : s.size ≤ maxLen) (w : World) (hm : ∃ m, w.cell? ⟨0, 0, none⟩ = some (.int .i64 m)) :
    Calls Tryd.prog 12 #[.string s] w (LinesPost s.data.toList w) := by
  unfold maxLen at hs
  by_cases hbig : 8388608 < s.size
  · have HP := Lib.hid (fun (V : World) (hB : Below w.heap.size w V) => post_big (l := s.data.toList) (by rw [Lex.len_eq]; exact hbig) hB)
    have hbi : (8388608 : Int) < (s.size : Int) := by omega
    clear hm
    go_enter Tryd.func12, Tryd.ntmps12
    go_wp2
    go_ret3
    exact HP.out _ (Below.refl _ _)
  · have hnb : ¬ 8388608 < s.data.toList.length := by rw [Lex.len_eq]; exact hbig
    obtain ⟨t, ht⟩ : ∃ t : ByteArray, (⟨(Lib.trimSuffix s.data.toList [10]).toArray⟩ : ByteArray) = t := ⟨_, rfl⟩
    have hraw : splitB 10 t.data.toList = rawL s.data.toList := by rw [← ht]; show splitB 10 (Lib.trimSuffix s.data.toList [10]) = _; rw [trim_is]; rfl
    have htz : t.size ≤ s.size := by
      rw [← ht]
      show (Lib.trimSuffix s.data.toList [10]).length ≤ s.size
      unfold Lib.trimSuffix
      split
      · rw [List.length_take, Lex.len_eq]; omega
      · rw [Lex.len_eq]; exact Nat.le_refl _
    have C28 := Lib.hid (Tryd.strings_TrimSuffix s ⟨#[10]⟩ w (by omega))
    rw [show ((⟨#[10]⟩ : ByteArray).data.toList) = [10] from rfl, ht] at C28
    have C25 := Lib.hid (split_is 10 t (by omega) w hm)
    rw [hraw] at C25
    have HX := Lib.hid (fun (v : Value) (V : World) (h : StrsV V v (rawL s.data.toList)) => index_any 30 tooLong s.size _ v V h (by intro p hp; have := rawL_le _ p hp; rwa [Lex.len_eq] at this) (enters_of Tryd.func30 (by kernel_rfl) rfl) (fun p V' hp => long30 p (by omega) V'))
    have HNB := Lib.hid hnb
    have hle : (8388608 : Int) ≥ (s.size : Int) := by omega
    have HL := Lib.hid (show idx tooLong (rawL s.data.toList) ≤ 8388610 ∧ -1 ≤ idx tooLong (rawL s.data.toList) by
      unfold idx
      have h1 := rawL_length s.data.toList
      rw [Lex.len_eq] at h1
      have h2 : (rawL s.data.toList).findIdx tooLong ≤ (rawL s.data.toList).length := List.findIdx_le_length
      split <;> omega)
    clear ht hraw htz hm hnb hbig
    obtain ⟨i, hi⟩ : ∃ i, idx tooLong (rawL s.data.toList) = i := ⟨_, rfl⟩
    rw [hi] at HX HL
    have hi1 := HL.out.1
    have hi2 := HL.out.2
    have HI := Lib.hid hi
    clear hi HL
    by_cases h0 : 0 ≤ i
    · have hi0 : decide (0 ≤ i) = true := by simpa using h0
      go_enter Tryd.func12, Tryd.ntmps12
      go_wp2_with fail
      refine C28.out.mono ?_
      rintro e V1 ⟨rfl, rfl⟩
      go_wp2_with fail
      refine C25.out.mono ?_
      rintro e V2 ⟨v, rfl, h2, hB⟩
      have HV := Lib.hid h2
      have HB := Lib.hid hB
      clear h2 hB
      go_wp2_with fail
      refine (HX.out v _ HV.out).mono ?_
      rintro e V3 ⟨rfl, rfl⟩
      go_wp2
      go_ret3
      have h1 : (rawL s.data.toList).any tooLong = true := by
        have := HI.out
        unfold idx at this
        split at this
        · assumption
        · omega
      refine post_long HNB.out h1 ?_ HB.out
      have := HI.out
      unfold idx at this
      rw [if_pos h1] at this
      omega
    · have hi0 : decide (0 ≤ i) = false := by simpa using h0
      go_enter Tryd.func12, Tryd.ntmps12
      go_wp2_with fail
      refine C28.out.mono ?_
      rintro e V1 ⟨rfl, rfl⟩
      go_wp2_with fail
      refine C25.out.mono ?_
      rintro e V2 ⟨v, rfl, h2, hB⟩
      have HV := Lib.hid h2
      have HB := Lib.hid hB
      clear h2 hB
      go_wp2_with fail
      refine (HX.out v _ HV.out).mono ?_
      rintro e V3 ⟨rfl, rfl⟩
      go_wp2
      go_ret3
      refine post_lines HNB.out ?_ HV.out HB.out
      have := HI.out
      unfold idx at this
      split at this
      · omega
      · simpa using ‹¬ (rawL s.data.toList).any tooLong = true›
end Go.Proofs.YtjdckmhlgcjdgaaDoor.Lx
