/- The reference's Lines, called with any text, returns what linesL, linesN and linesE say; no block that was there changes. -/
import Derived.Test.YtjdckmhlgcjdgaaDoorLxL
namespace Go.Proofs.YtjdckmhlgcjdgaaDoor.Lx
open Go.RowKit
open Lex (strV bytesOf)

theorem pieces_lf (r cur : List UInt8) (b : Bool) : pieces (10 :: r) cur b = cur :: pieces r [] true := by rw [pieces, if_pos rfl]
theorem pieces_go (c : UInt8) (r cur : List UInt8) (b : Bool) (h : c ≠ 10) : pieces (c :: r) cur b = pieces r (cur ++ [c]) true := by rw [pieces, if_neg h]
def cutL (l : List UInt8) (b k : Nat) : List UInt8 := (l.drop b).take (k - b)
theorem cutL_snoc (s : ByteArray) (b k : Nat) (hb : b ≤ k) (h : k < s.size) : cutL s.data.toList b (k + 1) = cutL s.data.toList b k ++ [s[k]] := by
  unfold cutL
  rw [show k + 1 - b = (k - b) + 1 by omega, List.take_succ_eq_append_getElem (by rw [List.length_drop, Lex.len_eq]; omega)]
  simp [show b + (k - b) = k by omega]
  rfl
theorem cutL_same (l : List UInt8) (b : Nat) : cutL l b b = [] := by unfold cutL; simp
theorem cutL_len (s : ByteArray) (b k : Nat) (hb : b ≤ k) (h : k ≤ s.size) : (cutL s.data.toList b k).length = k - b := by
  unfold cutL
  rw [List.length_take, List.length_drop, Lex.len_eq]; omega
theorem cutL_ext (s : ByteArray) (b k : Nat) : s.extract b k = bytesOf (cutL s.data.toList b k) := bytesOf_eq (by rw [ext_list]; rfl)

theorem own_form {W : World} {B : Nat} {e : TypeId} {v : Value} {n : Nat} {xs : List Value} (h : W.ownsRow B e 1 v n xs) : ∃ a c, v = .slice a n c := by
  rcases h.2 with ⟨hv, h0⟩ | ⟨g, cap, cur, hv, _⟩
  · exact ⟨none, 0, by rw [hv, h0]⟩
  · exact ⟨_, _, hv⟩
/-- the state of the loop at a byte -/
structure AtLine (s : ByteArray) (k b0 : Nat) (out : List (List UInt8)) (v5 : Value) (w wr : World) : Prop where
  here : k ≤ s.size → rawL s.data.toList = out ++ pieces (s.data.toList.drop k) (cutL s.data.toList b0 k) (decide (0 < k))
  done : k = s.size + 1 → rawL s.data.toList = out
  ok : out.any tooLong = false
  few : out.length ≤ k
  beg : b0 ≤ k
  outs : wr.ownsRow w.heap.size 9 1 v5 out.length (out.map strV)
  below : Below w.heap.size w wr
theorem AtLine.byte {s : ByteArray} {k b0 : Nat} {out : List (List UInt8)} {v5 : Value} {w wr : World} (h : AtLine s k b0 out v5 w wr) (hk : k < s.size) (hc : s[k] ≠ 10) : AtLine s (k + 1) b0 out v5 w wr := by
  refine ⟨fun _ => ?_, fun e => by omega, h.ok, by have := h.few; omega, by have := h.beg; omega, h.outs, h.below⟩
  rw [h.here (by omega), Lex.drop_at s k hk, pieces_go _ _ _ _ hc, cutL_snoc s b0 k h.beg hk]
  simp
theorem AtLine.last {s : ByteArray} {b0 : Nat} {out : List (List UInt8)} {v5 : Value} {w wr : World} (h : AtLine s s.size b0 out v5 w wr) (hb : b0 = s.size) (h0 : 0 < s.size) : AtLine s (s.size + 1) b0 out v5 w wr := by
  refine ⟨fun e => by omega, fun _ => ?_, h.ok, by have := h.few; omega, by have := h.beg; omega, h.outs, h.below⟩
  rw [h.here (by omega), Lex.drop_end s _ (by omega), hb, cutL_same]
  simp [pieces, h0]
theorem AtLine.next {s : ByteArray} {k b0 : Nat} {out : List (List UInt8)} {v5 : Value} {w wr : World} (h : AtLine s k b0 out v5 w wr)
    (hk : (∃ x : k < s.size, s[k] = 10) ∨ (k = s.size ∧ ¬ (b0 = k ∧ 0 < k))) : rawL s.data.toList = out ++ cutL s.data.toList b0 k :: (if k < s.size then pieces (s.data.toList.drop (k + 1)) [] true else []) := by
  rcases hk with ⟨x, e⟩ | ⟨rfl, e⟩
  · rw [h.here (by omega), Lex.drop_at s k x, e, pieces_lf, if_pos x]
  · rw [h.here (by omega), Lex.drop_end s _ (by omega), if_neg (by omega), pieces, if_neg]
    rintro ⟨h1, h2⟩
    have := cutL_len s b0 s.size h.beg (by omega)
    rw [h1] at this
    simp at this h2
    exact e ⟨by have := h.beg; omega, h2⟩
theorem AtLine.push {s : ByteArray} {k b0 : Nat} {out : List (List UInt8)} {v5 v' : Value} {w wr w1 : World} {o : Obj} (h : AtLine s k b0 out v5 w wr) (hks : k ≤ s.size)
    (hk : (∃ x : k < s.size, s[k] = 10) ∨ (k = s.size ∧ ¬ (b0 = k ∧ 0 < k))) (hl : ¬ 300 < k - b0)
    (hown : w1.ownsRow w.heap.size 9 1 v' (out.length + 1) (out.map strV ++ [.string (s.extract b0 k)])) (hg : (wr.alloc o).grownBy w1 v5.ownBlock) :
    AtLine s (k + 1) (k + 1) (out ++ [cutL s.data.toList b0 k]) v' w w1 := by
  have hz := h.below.size
  have hn := h.next hk
  refine ⟨fun hk1 => ?_, fun e => ?_, ?_, by have := h.few; simp; omega, by omega, ?_, ?_⟩
  · rw [if_pos (by omega)] at hn
    rw [hn, cutL_same]
    simp
  · rw [if_neg (by omega)] at hn
    exact hn
  · rw [List.any_append, h.ok]
    simp [tooLong, cutL_len s b0 k h.beg hks]
    omega
  · rw [cutL_ext] at hown
    simpa [strV] using hown
  · exact (h.below.alloc hz o).grown hg (by simp; omega) (fun b hb => ((h.outs.alloc o).lt b hb).1)
theorem AtLine.long {s : ByteArray} {k b0 : Nat} {out : List (List UInt8)} {v5 : Value} {w wr : World} (h : AtLine s k b0 out v5 w wr) (hks : k ≤ s.size)
    (hk : (∃ x : k < s.size, s[k] = 10) ∨ (k = s.size ∧ ¬ (b0 = k ∧ 0 < k))) (hl : 300 < k - b0) : (rawL s.data.toList).any tooLong = true ∧ (rawL s.data.toList).findIdx tooLong = out.length := by
  have hn := h.next hk
  have hx : tooLong (cutL s.data.toList b0 k) = true := by simp [tooLong, cutL_len s b0 k h.beg hks, hl]
  constructor
  · rw [hn, List.any_append, List.any_cons, hx]; simp
  · rw [hn]
    refine (List.findIdx_eq (by simp)).2 ⟨by simpa using hx, fun j hj => ?_⟩
    have ho := h.ok
    rw [List.any_eq_false] at ho
    rw [List.getElem_append_left hj]
    simpa using ho _ (List.getElem_mem hj)

set_option maxHeartbeats 4000000 in
set_option maxRecDepth 100000 in
theorem refLines_any (s : ByteArray) (hs : s.size ≤ maxLen) (w : World) :
    Calls Tryd.prog 13 #[.string s] w (LinesPost s.data.toList w) := by
  unfold maxLen at hs
  obtain ⟨i9, hi9, hz90, hz91, hz92⟩ := info_parts Lex.info9
  by_cases hbig : 8388608 < s.size
  · have HP := Lib.hid (fun (V : World) (hB : Below w.heap.size w V) => post_big (l := s.data.toList) (by rw [Lex.len_eq]; exact hbig) hB)
    have hbi : (8388608 : Int) < (s.size : Int) := by omega
    go_enter Tryd.func13, Tryd.ntmps13
    go_wp2
    go_ret3
    exact HP.out _ (Below.refl _ _)
  · have hle : (s.size : Int) ≤ 8388608 := by omega
    have HNB := Lib.hid (show ¬ 8388608 < s.data.toList.length by rw [Lex.len_eq]; exact hbig)
    clear hbig
    go_enter Tryd.func13, Tryd.ntmps13
    go_wp2
    go_loopw [5, 6, 7] (fun v5 b i wr => ∃ (k b0 : Nat) (out : List (List UInt8)), k ≤ s.size + 1 ∧ i = .int .i64 k ∧ b = .int .i64 b0 ∧ AtLine s k b0 out v5 w wr) (fun _ _ i _ => s.size + 1 - (intOf i).toNat)
    case atStart => exact ⟨0, 0, [], by omega, rfl, rfl, ⟨fun _ => by rw [cutL_same]; exact (pieces_all _).symm, fun e => by omega, rfl, by simp, by omega, World.ownsRow_nil _ _ _ _, Below.refl _ _⟩⟩
    case round =>
      obtain ⟨k, b0, out, hk, rfl, rfl, hA⟩ := hrel
      have hb0 := hA.beg
      have hfew := hA.few
      have HA := Lib.hid hA
      clear hA
      by_cases hk1 : k ≤ s.size
      · by_cases hA : ∃ x : k < s.size, s[k] ≠ 10
        · obtain ⟨hlt, hc⟩ := hA
          have HC := Lib.hid hc
          have t10 : ((s[k].toNat : Int) != 10) = true := by
            rw [bne_iff_ne]
            intro e
            exact hc (UInt8.toNat_inj.1 (by have : s[k].toNat = 10 := by omega
                                            rw [this]; rfl))
          have hki : (k : Int) < (s.size : Int) := by omega
          clear hc
          go_wp2
          go_roundw
          case rel => exact ⟨k + 1, b0, out, by omega, by go_num, rfl, HA.out.byte hlt HC.out⟩
          case measure => first | (simp [intOf]; done) | (simp [intOf]; omega)
        · by_cases hB : k = s.size ∧ b0 = k ∧ 0 < k
          · obtain ⟨rfl, rfl, h0⟩ := hB
            have h0i : (0 : Int) < (s.size : Int) := by omega
            clear hA
            go_wp2
            go_roundw
            case rel => exact ⟨s.size + 1, s.size, out, by omega, by go_num, rfl, HA.out.last rfl h0⟩
            case measure => first | (simp [intOf]; done) | (simp [intOf]; omega)
          · have hN : (∃ x : k < s.size, s[k] = 10) ∨ (k = s.size ∧ ¬ (b0 = k ∧ 0 < k)) := by
              by_cases hlt : k < s.size
              · left
                refine ⟨hlt, ?_⟩
                by_cases e : s[k] = 10
                · exact e
                · exact absurd ⟨hlt, e⟩ hA
              · right
                have : k = s.size := by omega
                exact ⟨this, fun h => hB ⟨this, h⟩⟩
            have HN := Lib.hid hN
            have hb0i : (b0 : Int) ≤ (k : Int) := by omega
            have hki : (k : Int) ≤ (s.size : Int) := by omega
            have hoi : (out.length : Int) ≤ 8388610 := by omega
            rcases hN with ⟨hlt, hc⟩ | ⟨he, hne⟩
            · have t10 : ((s[k].toNat : Int) != 10) = false := by rw [hc]; rfl
              have hki2 : (k : Int) < (s.size : Int) := by omega
              have tke : ((k : Int) == (s.size : Int)) = false := by rw [beq_eq_false_iff_ne]; omega
              clear hA hB hc
              by_cases h300 : 300 < k - b0
              · have h3 : (300 : Int) < (k : Int) - (b0 : Int) := by omega
                have HE := Lib.hid (HA.out.long hk1 HN.out h300)
                obtain ⟨ao, cp, rfl⟩ := own_form HA.out.outs
                go_wp2
                go_ret3
                exact post_long HNB.out HE.out.1 (by rw [HE.out.2]) HA.out.below
              · have h3 : (k : Int) - (b0 : Int) ≤ 300 := by omega
                go_wp2_with (at_builtin; refine wpList_append_own _ rfl _ _ 23 rfl w.heap.size 9 i9 (.string ⟨#[]⟩) 1 16 Tryd.underlying23 hi9 hz90 hz91 hz92 rfl (by decide) u5 out.length (out.map strV) rfl (HA.out.outs.alloc _) ⟨wr.heap.size, 0, none⟩ 1 1 [.string (s.extract b0 k)] rfl rfl ?g1 ?g2 ?g3 ?g4 ?g5 ?_; (case g1 => exact cell_one_new _ _ _); (case g2 => simp [Value.oneCell']); (case g3 => unfold maxLen; omega); (case g4 => omega); (case g5 => have := HA.out.below.size; simp; omega); intro v' w1 hown' hgrow _; have HO := Lib.hid hown'; have HG := Lib.hid hgrow; clear hown' hgrow)
                go_roundw
                case rel => exact ⟨k + 1, k + 1, out ++ [cutL s.data.toList b0 k], by omega, by go_num, by go_num, HA.out.push hk1 HN.out h300 HO.out HG.out⟩
                case measure => first | (simp [intOf]; done) | (simp [intOf]; omega)
            · subst he
              have h300 : ¬ 300 < s.size - b0 ∨ 300 < s.size - b0 := by omega
              clear hA hB
              by_cases hbk : b0 = s.size
              · have hk0 : s.size = 0 := by
                  rcases Nat.eq_zero_or_pos s.size with h | h
                  · exact h
                  · exact absurd ⟨hbk, h⟩ hne
                have tbk : ((b0 : Int) == (s.size : Int)) = true := by rw [beq_iff_eq]; omega
                have t0 : decide (0 < s.size) = false := decide_eq_false (by omega)
                have t0' : ¬ 0 < s.size := by omega
                have h3 : (s.size : Int) - (b0 : Int) ≤ 300 := by omega
                have HBK := Lib.hid hbk
                clear hne hk0 hbk h300
                go_wp2_with (at_builtin; refine wpList_append_own _ rfl _ _ 23 rfl w.heap.size 9 i9 (.string ⟨#[]⟩) 1 16 Tryd.underlying23 hi9 hz90 hz91 hz92 rfl (by decide) u5 out.length (out.map strV) rfl (HA.out.outs.alloc _) ⟨wr.heap.size, 0, none⟩ 1 1 [.string (s.extract b0 s.size)] rfl rfl ?g1 ?g2 ?g3 ?g4 ?g5 ?_; (case g1 => exact cell_one_new _ _ _); (case g2 => simp [Value.oneCell']); (case g3 => unfold maxLen; omega); (case g4 => omega); (case g5 => have := HA.out.below.size; simp; omega); intro v' w1 hown' hgrow _; have HO := Lib.hid hown'; have HG := Lib.hid hgrow; clear hown' hgrow)
                go_roundw
                case rel => exact ⟨s.size + 1, s.size + 1, out ++ [cutL s.data.toList b0 s.size], Nat.le_refl _, by go_num, by go_num, HA.out.push hk1 HN.out (by have := HBK.out; omega) HO.out HG.out⟩
                case measure => first | (simp [intOf]; done) | (simp [intOf]; omega)
              · have tbk : ((b0 : Int) == (s.size : Int)) = false := by rw [beq_eq_false_iff_ne]; omega
                clear hne hbk
                rcases h300 with h300 | h300
                · have h3 : (s.size : Int) - (b0 : Int) ≤ 300 := by omega
                  go_wp2_with (at_builtin; refine wpList_append_own _ rfl _ _ 23 rfl w.heap.size 9 i9 (.string ⟨#[]⟩) 1 16 Tryd.underlying23 hi9 hz90 hz91 hz92 rfl (by decide) u5 out.length (out.map strV) rfl (HA.out.outs.alloc _) ⟨wr.heap.size, 0, none⟩ 1 1 [.string (s.extract b0 s.size)] rfl rfl ?g1 ?g2 ?g3 ?g4 ?g5 ?_; (case g1 => exact cell_one_new _ _ _); (case g2 => simp [Value.oneCell']); (case g3 => unfold maxLen; omega); (case g4 => omega); (case g5 => have := HA.out.below.size; simp; omega); intro v' w1 hown' hgrow _; have HO := Lib.hid hown'; have HG := Lib.hid hgrow; clear hown' hgrow)
                  go_roundw
                  case rel => exact ⟨s.size + 1, s.size + 1, out ++ [cutL s.data.toList b0 s.size], by omega, by go_num, by go_num, HA.out.push hk1 HN.out h300 HO.out HG.out⟩
                  case measure => first | (simp [intOf]; done) | (simp [intOf]; omega)
                · have h3 : (300 : Int) < (s.size : Int) - (b0 : Int) := by omega
                  have HE := Lib.hid (HA.out.long hk1 HN.out h300)
                  obtain ⟨ao, cp, rfl⟩ := own_form HA.out.outs
                  go_wp2
                  go_ret3
                  exact post_long HNB.out HE.out.1 (by rw [HE.out.2]) HA.out.below
      · have hke : k = s.size + 1 := by omega
        have HKE := Lib.hid hke
        have tlt : decide (k ≤ s.size) = false := by simp; omega
        clear hke
        go_wp2
        go_ret3
        have hd := HA.out.done HKE.out
        refine post_lines HNB.out (by rw [hd]; exact HA.out.ok) ?_ HA.out.below
        rw [hd]
        exact StrsV.of_own HA.out.outs
end Go.Proofs.YtjdckmhlgcjdgaaDoor.Lx
