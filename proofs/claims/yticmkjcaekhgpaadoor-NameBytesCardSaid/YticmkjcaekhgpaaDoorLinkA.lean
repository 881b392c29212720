import Derived.Test.YticmkjcaekhgpaaDoorOpen
namespace Go.Proofs.YticmkjcaekhgpaaDoor
open Go.RowKit

/-- the strings of a slice, all of them right -/
def namesE (p : List UInt8 → Bool) (S : List ByteArray) (n : Nat) : Int :=
  if S.length = n then (if S.all (fun s => p s.data.toList) then 0 else 9) else 5

theorem StrsAt.cell {W : World} {b off : Nat} {S : List ByteArray} (h : StrsAt W (some ⟨b, off, none⟩) S) (k : Nat) (hk : k < S.length) : W.cell? ⟨b, off + k, none⟩ = some (.string (S.getD k ByteArray.empty)) ∧ (S.getD k ByteArray.empty).size ≤ maxLen := by
  rcases h with h | ⟨b', off', e, hc⟩
  · rw [h] at hk; simp at hk
  · cases e; exact hc k hk
theorem StrsAt.addr {W : World} {a : Option Addr} {S : List ByteArray} (h : StrsAt W a S) (hk : 0 < S.length) : ∃ b off, a = some ⟨b, off, none⟩ ∧ b < W.heap.size := by
  rcases h with h | ⟨b', off', e, hc⟩
  · rw [h] at hk; simp at hk
  · have := block_lt_of_cell (hc 0 hk).1
    exact ⟨b', off', e, this⟩
theorem StrsAt.below {W W' : World} {a : Option Addr} {S : List ByteArray} {B : Nat} (h : StrsAt W a S) (hB : Below B W W') (hb : S = [] ∨ ∀ b off, a = some ⟨b, off, none⟩ → b < B) : StrsAt W' a S := by
  rcases h with h | ⟨b', off', e, hc⟩
  · exact .inl h
  · rcases hb with h | hb
    · exact .inl h
    · exact .inr ⟨b', off', e, fun i hi => ⟨(hB.cell (p := ⟨b', off' + i, none⟩) (hb _ _ e)).trans (hc i hi).1, (hc i hi).2⟩⟩
theorem StrsAt.keep {W W' : World} {a : Option Addr} {S : List ByteArray} (h : StrsAt W a S) (hB : Below W.heap.size W W') : StrsAt W' a S := by
  rcases h with h | ⟨b', off', e, hc⟩
  · exact .inl h
  · exact .inr ⟨b', off', e, fun i hi => ⟨(hB.cell (p := ⟨b', off' + i, none⟩) (block_lt_of_cell (hc i hi).1)).trans (hc i hi).1, (hc i hi).2⟩⟩

/-- the closure of linkline.names: not right -/
theorem names59 (f : Nat) (p : List UInt8 → Bool) (hf : Tells f p) (b : Nat) (s : ByteArray) (hs : s.size ≤ maxLen) (w : World) (hc : w.cell? ⟨b, 0, none⟩ = some (.func (.func f) #[] #[])) :
    Calls Tryd.prog 59 #[.string s, .pointer (some ⟨b, 0, none⟩)] w fun e w' => e = .returned (.bool (!p s.data.toList)) ∧ Below w.heap.size w w' := by
  have hef := hf.1
  have HF := Lib.hid (hf.2 s w hs)
  clear hf
  go_enter Tryd.func59, Tryd.ntmps59
  go_wp2_with (refine HF.out.mono ?_; rintro e w' ⟨rfl, hb'⟩)
  go_ret
  exact ⟨rfl, hb'⟩

set_option maxHeartbeats 1000000 in
theorem index70 (g : Nat) (cap : Value) (q : List UInt8 → Bool) (S : List ByteArray) (a : Option Addr) (c : Nat) (W : World) (hS : StrsAt W a S) (hl : S.length ≤ maxLen) (hef : ∀ args w, (callFunc g args).run Tryd.prog w = .ok (.enter g args) w)
    (hg : ∀ (s : ByteArray) (V : World), s.size ≤ maxLen → Below W.heap.size W V → Calls Tryd.prog g #[.string s, cap] V fun e w' => e = .returned (.bool (q s.data.toList)) ∧ Below V.heap.size V w') :
    Calls Tryd.prog 70 #[.slice a S.length c, .func (.func g) #[] #[cap]] W fun e w' => ∃ r : Int, e = .returned (.int .i64 r) ∧ -1 ≤ r ∧ decide (0 ≤ r) = S.any (fun s => q s.data.toList) ∧ Below W.heap.size W w' := by
  unfold maxLen at hl
  have HG := Lib.hid hg
  have HS := Lib.hid hS
  clear hg hS
  go_enter Tryd.func70, Tryd.ntmps70
  go_wp2
  go_loopw [5, 8] (fun _ i wr => ∃ k : Nat, k ≤ S.length ∧ i = .int .i64 k ∧ (S.take k).any (fun s => q s.data.toList) = false ∧ Below W.heap.size W wr) (fun _ i _ => S.length - (intOf i).toNat)
  case atStart => exact ⟨0, by omega, rfl, rfl, Below.refl _ _⟩
  case round =>
    obtain ⟨k, hk, rfl, hno, hB⟩ := hrel
    have HN := Lib.hid hno
    have HB := Lib.hid hB
    clear hno hB
    by_cases hlt : k < S.length
    · obtain ⟨b, off, rfl, _⟩ := HS.out.addr (by omega)
      obtain ⟨hc, hsz⟩ := (HS.out.keep HB.out).cell k hlt
      obtain ⟨s, hs⟩ : ∃ s, S.getD k ByteArray.empty = s := ⟨_, rfl⟩
      rw [hs] at hc hsz
      have hcall := HG.out s wr hsz HB.out
      have hany : S.any (fun s => q s.data.toList) = true ∨ q s.data.toList = false := by
        cases hq : q s.data.toList
        · exact .inr rfl
        · left
          rw [List.any_eq_true]
          refine ⟨s, ?_, hq⟩
          rw [← hs, getD_lt hlt]
          exact List.getElem_mem hlt
      have htake : q s.data.toList = false → (S.take (k + 1)).any (fun s => q s.data.toList) = false := by
        intro h
        rw [List.take_succ_eq_append_getElem hlt, List.any_append, HN.out]
        rw [getD_lt hlt] at hs
        simp [hs, h]
      have HA := Lib.hid hany
      have HT := Lib.hid htake
      have HC := Lib.hid hcall
      clear hany htake hcall hs
      obtain ⟨v, hv⟩ : ∃ v, q s.data.toList = v := ⟨_, rfl⟩
      rw [hv] at HA HT HC
      clear hv
      cases v
      · go_wp2_with (refine HC.out.mono ?_; rintro e w' ⟨rfl, hb'⟩)
        go_roundw
        case rel => exact ⟨k + 1, by omega, by go_num, by first | exact HT.out rfl | exact HT.out trivial, HB.out.trans (hb'.mono HB.out.size)⟩
        case measure => simp [intOf]; omega
      · go_wp2_with (refine HC.out.mono ?_; rintro e w' ⟨rfl, hb'⟩)
        go_ret
        refine ⟨(k : Int), rfl, by omega, ?_, HB.out.trans (hb'.mono HB.out.size)⟩
        rcases HA.out with h | h
        · rw [h]; simp
        · cases h
    · go_wp2
      go_ret
      refine ⟨-1, rfl, by omega, ?_, HB.out⟩
      have := HN.out
      rw [List.take_of_length_le (by omega)] at this
      rw [this]; rfl

theorem contains58 (g : Nat) (cap : Value) (q : List UInt8 → Bool) (S : List ByteArray) (a : Option Addr) (c : Nat) (W : World) (hS : StrsAt W a S) (hl : S.length ≤ maxLen) (hef : ∀ args w, (callFunc g args).run Tryd.prog w = .ok (.enter g args) w)
    (hg : ∀ (s : ByteArray) (V : World), s.size ≤ maxLen → Below W.heap.size W V → Calls Tryd.prog g #[.string s, cap] V fun e w' => e = .returned (.bool (q s.data.toList)) ∧ Below V.heap.size V w') :
    Calls Tryd.prog 58 #[.slice a S.length c, .func (.func g) #[] #[cap]] W fun e w' => e = .returned (.bool (S.any (fun s => q s.data.toList))) ∧ Below W.heap.size W w' := by
  have h70 := index70 g cap q S a c W hS hl hef hg
  have H70 := Lib.hid h70
  clear h70 hg hef hS
  go_enter Tryd.func58, Tryd.ntmps58
  go_wp2_with (go_at_call 70; refine H70.out.mono ?_; rintro e w' ⟨r, rfl, hr, hd, hb'⟩; have HD := Lib.hid hd; clear hd)
  go_ret
  exact ⟨by rw [← HD.out]; rfl, hb'⟩

set_option maxHeartbeats 1000000 in
theorem names45 (f : Nat) (p : List UInt8 → Bool) (hf : Tells f p) (S : List ByteArray) (a : Option Addr) (c : Nat) (n : Nat) (W : World) (hS : StrsAt W a S) (hl : S.length ≤ maxLen) :
    Calls Tryd.prog 45 #[.slice a S.length c, .int .i64 n, .func (.func f) #[] #[]] W fun e w' => e = .returned (.int .i64 (namesE p S n)) ∧ Below W.heap.size W w' := by
  have hl' := Lib.hid hl
  unfold maxLen at hl
  by_cases h : S.length = n
  · have hne : ((S.length : Int) != (n : Int)) = false := by rw [h]; simp
    have hE : namesE p S n = if S.any (fun s => !p s.data.toList) then 9 else 0 := by
      unfold namesE
      rw [if_pos h]
      cases hq : S.any (fun s => !p s.data.toList)
      · rw [if_pos]; rfl
        rw [List.all_eq_true]; rw [List.any_eq_false] at hq
        intro s hs; simpa using hq s hs
      · rw [if_neg]; rfl
        intro hall
        rw [List.all_eq_true] at hall
        obtain ⟨s, hs, hb⟩ := List.any_eq_true.1 hq
        simp [hall s hs] at hb
    obtain ⟨W1, hW1⟩ : ∃ W1, W.alloc (.cells #[.func (.func f) #[] #[]] 23) = W1 := ⟨_, rfl⟩
    have hB1 : Below W.heap.size W W1 := by rw [← hW1]; exact (Below.refl _ _).alloc (Nat.le_refl _) _
    have hc1 : W1.cell? ⟨W.heap.size, 0, none⟩ = some (.func (.func f) #[] #[]) := by rw [← hW1]; exact (World.cell?_alloc_at _ _ _ _ rfl).trans rfl
    have hz1 : W1.heap.size = W.heap.size + 1 := by rw [← hW1]; simp
    have hcont := contains58 59 (.pointer (some ⟨W.heap.size, 0, none⟩)) (fun l => !p l) S a c W1 (hS.keep hB1) hl'.out (enters_of Tryd.func59 (by kernel_rfl) rfl)
      (fun s V hs hV => names59 f p hf W.heap.size s hs V ((hV.cell (p := ⟨W.heap.size, 0, none⟩) (by simp; omega)).trans hc1))
    have HC := Lib.hid hcont
    have HE := Lib.hid hE
    obtain ⟨v, hv⟩ : ∃ v, S.any (fun s => !p s.data.toList) = v := ⟨_, rfl⟩
    rw [hv] at HE HC
    rw [← hW1] at HC
    have HB1 := Lib.hid hB1
    have HW1 := Lib.hid hW1
    clear hcont hE hS hf hc1 hz1 hB1 hW1 hv h
    cases v
    · go_enter Tryd.func45, Tryd.ntmps45
      go_wp2_with (go_at_call 58; refine HC.out.mono ?_; rintro e w' ⟨rfl, hb'⟩)
      go_ret
      exact ⟨by rw [HE.out]; rfl, HB1.out.trans (by rw [← HW1.out]; exact hb'.mono (by simp))⟩
    · go_enter Tryd.func45, Tryd.ntmps45
      go_wp2_with (go_at_call 58; refine HC.out.mono ?_; rintro e w' ⟨rfl, hb'⟩)
      go_ret
      exact ⟨by rw [HE.out]; rfl, HB1.out.trans (by rw [← HW1.out]; exact hb'.mono (by simp))⟩
  · have hne : ((S.length : Int) != (n : Int)) = true := by simp; omega
    have hE : namesE p S n = 5 := by unfold namesE; rw [if_neg h]
    have HE := Lib.hid hE
    clear hE h hS hf
    go_enter Tryd.func45, Tryd.ntmps45
    go_wp2_with fail
    go_ret
    exact ⟨by rw [HE.out]; rfl, (Below.refl _ _).alloc (Nat.le_refl _) _⟩
end Go.Proofs.YticmkjcaekhgpaaDoor
