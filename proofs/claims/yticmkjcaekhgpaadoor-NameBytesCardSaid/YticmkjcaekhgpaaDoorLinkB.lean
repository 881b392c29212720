import Derived.Test.YticmkjcaekhgpaaDoorLinkA
namespace Go.Proofs.YticmkjcaekhgpaaDoor
open Go.RowKit

def bytesOf (l : List UInt8) : ByteArray := ⟨l.toArray⟩
theorem bytesOf_eq {b : ByteArray} {l : List UInt8} (h : b.data.toList = l) : b = bytesOf l := by
  subst h; rfl
theorem bytesOf_list (l : List UInt8) : (bytesOf l).data.toList = l := rfl

theorem few23 (S : List ByteArray) (a : Option Addr) (c : Nat) (W : World) (hS : StrsAt W a S) (hl : S.length ≤ maxLen) :
    Calls Tryd.prog 23 #[.slice a S.length c] W fun e w' => e = .returned (.bool (S.all (fun s => decide (s.size ≤ 200)) && decide (S.length ≤ 10))) ∧ W = w' := by
  unfold maxLen at hl
  have HS := Lib.hid hS
  clear hS
  go_enter Tryd.func23, Tryd.ntmps23
  go_wp2
  go_loop [3] (fun i => ∃ k : Nat, k ≤ S.length ∧ i = .int .i64 k ∧ (S.take k).all (fun s => decide (s.size ≤ 200)) = true) (fun i => S.length - (intOf i).toNat)
  case atStart => exact ⟨0, by omega, rfl, rfl⟩
  case round =>
    obtain ⟨k, hk, rfl, hall⟩ := hrel
    have HA := Lib.hid hall
    clear hall
    by_cases hlt : k < S.length
    · obtain ⟨b, off, rfl, _⟩ := HS.out.addr (by omega)
      obtain ⟨hc, hsz⟩ := HS.out.cell k hlt
      obtain ⟨s, hs⟩ : ∃ s, S.getD k ByteArray.empty = s := ⟨_, rfl⟩
      rw [hs] at hc hsz
      rw [getD_lt hlt] at hs
      unfold maxLen at hsz
      have HQ := Lib.hid hs
      clear hs
      by_cases h2 : 200 < s.size
      · go_wp2
        go_ret
        refine ⟨ret_bool ?_, rfl⟩
        have : S.all (fun s => decide (s.size ≤ 200)) = false := by
          rw [List.all_eq_false]
          exact ⟨S[k], List.getElem_mem hlt, by rw [HQ.out]; simpa using h2⟩
        rw [this]; rfl
      · go_wp2
        go_round
        case rel =>
          refine ⟨k + 1, by omega, by go_num, ?_⟩
          rw [List.take_succ_eq_append_getElem hlt, List.all_append, HA.out, HQ.out]
          simp; omega
        case measure => simp [intOf]; omega
    · go_wp2
      go_ret
      refine ⟨ret_bool ?_, rfl⟩
      have := HA.out
      rw [List.take_of_length_le (by omega)] at this
      rw [this, Bool.true_and, Bool.eq_iff_iff]
      simp
      omega

def lkT (S : List ByteArray) : ByteArray := if namesE zoneOk S 2 = 0 then S.getD 0 ByteArray.empty else ByteArray.empty
def lkN (S : List ByteArray) : ByteArray := if namesE zoneOk S 2 = 0 then S.getD 1 ByteArray.empty else ByteArray.empty

theorem namesE_zero {p : List UInt8 → Bool} {S : List ByteArray} {n : Nat} (h : namesE p S n = 0) : S.length = n ∧ S.all (fun s => p s.data.toList) = true := by
  unfold namesE at h
  by_cases h1 : S.length = n
  · rw [if_pos h1] at h
    by_cases h2 : S.all (fun s => p s.data.toList) = true
    · exact ⟨h1, h2⟩
    · rw [if_neg h2] at h; omega
  · rw [if_neg h1] at h; omega

theorem err_ne {p : List UInt8 → Bool} {S : List ByteArray} {n : Nat} (h : ¬ namesE p S n = 0) : (namesE p S n != 0) = true := by simpa using h
theorem err_eq {p : List UInt8 → Bool} {S : List ByteArray} {n : Nat} (h : namesE p S n = 0) : (namesE p S n != 0) = false := by simpa using h

set_option maxHeartbeats 1000000 in
theorem link25 (S : List ByteArray) (a : Option Addr) (c : Nat) (W : World) (hS : StrsAt W a S) (hl : S.length ≤ maxLen) :
    Calls Tryd.prog 25 #[.slice a S.length c] W fun e w' => e = .returned (.tuple #[.agg #[.string (lkT S), .string (lkN S)], .int .i64 (namesE zoneOk S 2)]) ∧ Below W.heap.size W w' := by
  have hn := names45 13 zoneOk tells13 S a c 2 (W.alloc (.cells #[.string ⟨#[]⟩, .string ⟨#[]⟩] 34)) (hS.keep ((Below.refl _ _).alloc (Nat.le_refl _) _)) hl
  have HN := Lib.hid hn
  have HS := Lib.hid hS
  clear hn hS
  unfold maxLen at hl
  have hx : lkT S = if namesE zoneOk S 2 = 0 then S.getD 0 ByteArray.empty else ByteArray.empty := rfl
  have hy : lkN S = if namesE zoneOk S 2 = 0 then S.getD 1 ByteArray.empty else ByteArray.empty := rfl
  by_cases h0 : namesE zoneOk S 2 = 0
  · obtain ⟨h2, _⟩ := namesE_zero h0
    rw [if_pos h0] at hx hy
    rw [h0] at HN
    rw [h0, hx, hy]
    obtain ⟨b, off, rfl, hb⟩ := HS.out.addr (by omega)
    obtain ⟨s0, e0⟩ : ∃ s, S.getD 0 ByteArray.empty = s := ⟨_, rfl⟩
    obtain ⟨s1, e1⟩ : ∃ s, S.getD 1 ByteArray.empty = s := ⟨_, rfl⟩
    rw [e0, e1]
    have q0 := (HS.out.cell 0 (by omega)).1
    have q1 := (HS.out.cell 1 (by omega)).1
    rw [e0] at q0
    rw [e1] at q1
    rw [h2] at HN ⊢
    clear e0 e1 hx hy h0 h2 HS hl
    go_enter Tryd.func25, Tryd.ntmps25
    go_wp2_with (go_at_call 45; refine HN.out.mono ?_; rintro e V ⟨rfl, hV⟩)
    have hz : W.heap.size < V.heap.size := by have := hV.size; simp at this; omega
    have c0 : V.cell? ⟨W.heap.size, 0, none⟩ = some (.string ⟨#[]⟩) := (hV.cell (p := ⟨W.heap.size, 0, none⟩) (by simp)).trans ((World.cell?_alloc_at _ _ _ _ rfl).trans rfl)
    have c1 : V.cell? ⟨W.heap.size, 1, none⟩ = some (.string ⟨#[]⟩) := (hV.cell (p := ⟨W.heap.size, 1, none⟩) (by simp)).trans ((World.cell?_alloc_at _ _ _ _ rfl).trans rfl)
    have f0 : V.frozen? ⟨W.heap.size, 0, none⟩ = false := (hV.frozen (p := ⟨W.heap.size, 0, none⟩) (by simp)).trans (World.frozen?_alloc_at _ _ _ _ rfl)
    have f1 : V.frozen? ⟨W.heap.size, 1, none⟩ = false := (hV.frozen (p := ⟨W.heap.size, 1, none⟩) (by simp)).trans (World.frozen?_alloc_at _ _ _ _ rfl)
    have p0 : V.cell? ⟨b, off, none⟩ = some (.string s0) := (hV.cell (p := ⟨b, off, none⟩) (by simp; omega)).trans ((World.cell?_alloc_past _ _ _ hb).trans q0)
    have p1 : V.cell? ⟨b, off + 1, none⟩ = some (.string s1) := (hV.cell (p := ⟨b, off + 1, none⟩) (by simp; omega)).trans ((World.cell?_alloc_past _ _ _ hb).trans q1)
    have hBV : Below W.heap.size W V := ((Below.refl _ W).alloc (Nat.le_refl _) _).trans (hV.mono (by simp))
    have hne : b ≠ W.heap.size := by omega
    clear hV q0 q1
    go_wp2
    go_region
    all_goals go_wp2
    all_goals exact bodyPost_ret (v := .tuple #[.agg #[.string s0, .string s1], .int .i64 0]) (by simp [results, Tryd.results25, go_sem, c0, c1]) rfl ⟨rfl, (((hBV.drew).setCell (p := ⟨W.heap.size, 0, none⟩) (by simp) _).setCell (p := ⟨W.heap.size, 1, none⟩) (by simp) _)⟩
  · rw [if_neg h0] at hx hy
    rw [hx, hy]
    have hE := err_ne h0
    obtain ⟨er, her⟩ : ∃ er, namesE zoneOk S 2 = er := ⟨_, rfl⟩
    rw [her] at HN hE ⊢
    clear h0 hx hy her
    go_enter Tryd.func25, Tryd.ntmps25
    go_wp2_with (go_at_call 45; refine HN.out.mono ?_; rintro e V ⟨rfl, hV⟩; have hz : W.heap.size < V.heap.size := (by have := hV.size; simp at this; omega); have c0 : V.cell? ⟨W.heap.size, 0, none⟩ = some (.string ⟨#[]⟩) := (hV.cell (p := ⟨W.heap.size, 0, none⟩) (by simp)).trans ((World.cell?_alloc_at _ _ _ _ rfl).trans rfl); have c1 : V.cell? ⟨W.heap.size, 1, none⟩ = some (.string ⟨#[]⟩) := (hV.cell (p := ⟨W.heap.size, 1, none⟩) (by simp)).trans ((World.cell?_alloc_at _ _ _ _ rfl).trans rfl); have f0 : V.frozen? ⟨W.heap.size, 0, none⟩ = false := (hV.frozen (p := ⟨W.heap.size, 0, none⟩) (by simp)).trans (World.frozen?_alloc_at _ _ _ _ rfl); have f1 : V.frozen? ⟨W.heap.size, 1, none⟩ = false := (hV.frozen (p := ⟨W.heap.size, 1, none⟩) (by simp)).trans (World.frozen?_alloc_at _ _ _ _ rfl); have hBV : Below W.heap.size W V := ((Below.refl _ W).alloc (Nat.le_refl _) _).trans (hV.mono (by simp)); clear hV)
    exact bodyPost_ret (v := .tuple #[.agg #[.string ⟨#[]⟩, .string ⟨#[]⟩], .int .i64 er]) (by simp [results, Tryd.results25, go_sem, c0, c1]) rfl ⟨rfl, (hBV.setCell (p := ⟨W.heap.size, 0, none⟩) (by simp) _).setCell (p := ⟨W.heap.size, 1, none⟩) (by simp) _⟩

set_option maxHeartbeats 2000000 in
theorem refLink26 (S : List ByteArray) (a : Option Addr) (c : Nat) (W : World) (hS : StrsAt W a S) (hl : S.length ≤ maxLen) :
    Calls Tryd.prog 26 #[.slice a S.length c] W fun e w' => e = .returned (.tuple #[.agg #[.string (lkT S), .string (lkN S)], .int .i64 (namesE zoneOk S 2)]) ∧ Below W.heap.size W w' := by
  have HS := Lib.hid hS
  clear hS
  unfold maxLen at hl
  have hB1 : Below W.heap.size W (W.alloc (.cells #[.string ⟨#[]⟩, .string ⟨#[]⟩] 34)) := (Below.refl _ W).alloc (Nat.le_refl _) _
  by_cases h1 : S.length = 2
  · obtain ⟨b, off, rfl, hb⟩ := HS.out.addr (by omega)
    obtain ⟨s0, s1, rfl⟩ : ∃ s t, S = [s, t] := by
      match S, h1 with
      | [s, t], _ => exact ⟨s, t, rfl⟩
    have q := HS.out.cell 0 (by simp)
    have r := HS.out.cell 1 (by simp)
    have q0 : W.cell? ⟨b, off, none⟩ = some (.string s0) := q.1
    have r0 : W.cell? ⟨b, off + 1, none⟩ = some (.string s1) := r.1
    have H0 := Lib.hid (fun V => ref_zone s0 q.2 V)
    have H1 := Lib.hid (fun V => ref_zone s1 r.2 V)
    have hne : b ≠ W.heap.size := by omega
    clear q r HS h1
    cases hv : zoneOk s0.data.toList
    · have e1 : namesE zoneOk [s0, s1] 2 = 9 := by unfold namesE; simp [hv]
      have e2 : lkT [s0, s1] = ByteArray.empty := by unfold lkT; rw [if_neg (by rw [e1]; omega)]
      have e3 : lkN [s0, s1] = ByteArray.empty := by unfold lkN; rw [if_neg (by rw [e1]; omega)]
      rw [hv] at H0
      rw [e1, e2, e3]
      clear e1 e2 e3 hv
      go_enter Tryd.func26, Tryd.ntmps26
      go_wp2_with (go_at_call 14; refine (H0.out _).mono ?_; rintro e w' ⟨rfl, rfl⟩)
      exact bodyPost_ret (v := .tuple #[.agg #[.string ⟨#[]⟩, .string ⟨#[]⟩], .int .i64 9]) (by simp [results, Tryd.results26, go_sem]) rfl ⟨rfl, hB1⟩
    · rw [hv] at H0
      cases hv2 : zoneOk s1.data.toList
      · have e1 : namesE zoneOk [s0, s1] 2 = 9 := by unfold namesE; simp [hv2]
        have e2 : lkT [s0, s1] = ByteArray.empty := by unfold lkT; rw [if_neg (by rw [e1]; omega)]
        have e3 : lkN [s0, s1] = ByteArray.empty := by unfold lkN; rw [if_neg (by rw [e1]; omega)]
        rw [hv2] at H1
        rw [e1, e2, e3]
        clear e1 e2 e3 hv hv2
        go_enter Tryd.func26, Tryd.ntmps26
        go_wp2_with fail
        refine (H0.out _).mono ?_
        rintro e w' ⟨rfl, rfl⟩
        go_wp2_with fail
        refine (H1.out _).mono ?_
        rintro e w' ⟨rfl, rfl⟩
        go_wp2
        exact bodyPost_ret (v := .tuple #[.agg #[.string ⟨#[]⟩, .string ⟨#[]⟩], .int .i64 9]) (by simp [results, Tryd.results26, go_sem]) rfl ⟨rfl, hB1⟩
      · have e1 : namesE zoneOk [s0, s1] 2 = 0 := by unfold namesE; simp [hv, hv2]
        have e2 : lkT [s0, s1] = s0 := by unfold lkT; rw [if_pos e1]; rfl
        have e3 : lkN [s0, s1] = s1 := by unfold lkN; rw [if_pos e1]; rfl
        rw [hv2] at H1
        rw [e1, e2, e3]
        clear e1 e2 e3 hv hv2
        go_enter Tryd.func26, Tryd.ntmps26
        go_wp2_with fail
        refine (H0.out _).mono ?_
        rintro e w' ⟨rfl, rfl⟩
        go_wp2_with fail
        refine (H1.out _).mono ?_
        rintro e w' ⟨rfl, rfl⟩
        go_wp2
        go_region
        all_goals go_wp2
        all_goals exact bodyPost_ret (v := .tuple #[.agg #[.string s0, .string s1], .int .i64 0]) (by simp [results, Tryd.results26, go_sem]) rfl ⟨rfl, ((Below.refl _ W).alloc (Nat.le_refl _) _).drew⟩
  · have e1 : namesE zoneOk S 2 = 5 := by unfold namesE; rw [if_neg h1]
    have e2 : lkT S = ByteArray.empty := by unfold lkT; rw [if_neg (by rw [e1]; omega)]
    have e3 : lkN S = ByteArray.empty := by unfold lkN; rw [if_neg (by rw [e1]; omega)]
    have hne : ((S.length : Int) != 2) = true := by simp; omega
    rw [e1, e2, e3]
    clear e1 e2 e3 h1 HS
    go_enter Tryd.func26, Tryd.ntmps26
    go_wp2_with fail
    exact bodyPost_ret (v := .tuple #[.agg #[.string ⟨#[]⟩, .string ⟨#[]⟩], .int .i64 5]) (by simp [results, Tryd.results26, go_sem]) rfl ⟨rfl, hB1⟩
end Go.Proofs.YticmkjcaekhgpaaDoor
