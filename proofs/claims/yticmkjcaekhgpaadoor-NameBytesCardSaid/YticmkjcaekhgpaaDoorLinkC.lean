import Derived.Test.YticmkjcaekhgpaaDoorLinkB
namespace Go.Proofs.YticmkjcaekhgpaaDoor
open Go.RowKit

def shV (S : List ByteArray) : ByteArray := if namesE setOk S 1 = 0 then S.getD 0 ByteArray.empty else ByteArray.empty

set_option maxHeartbeats 1000000 in
theorem shift27 (S : List ByteArray) (a : Option Addr) (c : Nat) (W : World) (hS : StrsAt W a S) (hl : S.length ≤ maxLen) :
    Calls Tryd.prog 27 #[.slice a S.length c] W fun e w' => e = .returned (.tuple #[.string (shV S), .int .i64 (namesE setOk S 1)]) ∧ Below W.heap.size W w' := by
  have hn := names45 15 setOk tells15 S a c 1 W hS hl
  have HN := Lib.hid hn
  have HS := Lib.hid hS
  clear hn hS
  unfold maxLen at hl
  have hx : shV S = if namesE setOk S 1 = 0 then S.getD 0 ByteArray.empty else ByteArray.empty := rfl
  by_cases h0 : namesE setOk S 1 = 0
  · obtain ⟨h2, _⟩ := namesE_zero h0
    rw [if_pos h0] at hx
    rw [h0] at HN
    rw [h0, hx]
    obtain ⟨b, off, rfl, hb⟩ := HS.out.addr (by omega)
    obtain ⟨s0, e0⟩ : ∃ s, S.getD 0 ByteArray.empty = s := ⟨_, rfl⟩
    rw [e0]
    have q0 := (HS.out.cell 0 (by omega)).1
    rw [e0] at q0
    rw [h2] at HN ⊢
    clear e0 hx h0 h2 HS hl
    go_enter Tryd.func27, Tryd.ntmps27
    go_wp2_with (go_at_call 45; refine HN.out.mono ?_; rintro e V ⟨rfl, hV⟩; have p0 : V.cell? ⟨b, off, none⟩ = some (.string s0) := (hV.cell (p := ⟨b, off, none⟩) hb).trans q0)
    go_ret2
    exact ⟨rfl, hV⟩
  · rw [if_neg h0] at hx
    rw [hx]
    have hE := err_ne h0
    obtain ⟨er, her⟩ : ∃ er, namesE setOk S 1 = er := ⟨_, rfl⟩
    rw [her] at HN hE ⊢
    clear h0 hx her
    go_enter Tryd.func27, Tryd.ntmps27
    go_wp2_with (go_at_call 45; refine HN.out.mono ?_; rintro e V ⟨rfl, hV⟩)
    go_ret2
    exact ⟨rfl, hV⟩

set_option maxHeartbeats 1000000 in
theorem refShift28 (S : List ByteArray) (a : Option Addr) (c : Nat) (W : World) (hS : StrsAt W a S) (hl : S.length ≤ maxLen) :
    Calls Tryd.prog 28 #[.slice a S.length c] W fun e w' => e = .returned (.tuple #[.string (shV S), .int .i64 (namesE setOk S 1)]) ∧ W = w' := by
  have HS := Lib.hid hS
  clear hS
  unfold maxLen at hl
  by_cases h1 : S.length = 1
  · obtain ⟨b, off, rfl, hb⟩ := HS.out.addr (by omega)
    obtain ⟨s0, rfl⟩ : ∃ s, S = [s] := by
      match S, h1 with
      | [s], _ => exact ⟨s, rfl⟩
    have q := HS.out.cell 0 (by simp)
    have q0 : W.cell? ⟨b, off, none⟩ = some (.string s0) := q.1
    have hsz : s0.size ≤ maxLen := q.2
    have hc := ref_set s0 hsz W
    cases hv : setOk s0.data.toList
    · rw [hv] at hc
      have HC := Lib.hid hc
      have e1 : namesE setOk [s0] 1 = 9 := by unfold namesE; simp [hv]
      have e2 : shV [s0] = ⟨#[]⟩ := by unfold shV; rw [if_neg (by rw [e1]; omega)]; rfl
      rw [e1, e2]
      clear hc hv e1 e2 q HS
      go_enter Tryd.func28, Tryd.ntmps28
      go_wp2_with (go_at_call 16; refine HC.out.mono ?_; rintro e w' ⟨rfl, rfl⟩)
      go_ret2
      exact ⟨rfl, rfl⟩
    · rw [hv] at hc
      have HC := Lib.hid hc
      have e1 : namesE setOk [s0] 1 = 0 := by unfold namesE; simp [hv]
      have e2 : shV [s0] = s0 := by unfold shV; rw [if_pos e1]; rfl
      rw [e1, e2]
      clear hc hv e1 e2 q HS
      go_enter Tryd.func28, Tryd.ntmps28
      go_wp2_with (go_at_call 16; refine HC.out.mono ?_; rintro e w' ⟨rfl, rfl⟩)
      go_ret2
      exact ⟨rfl, rfl⟩
  · have e1 : namesE setOk S 1 = 5 := by unfold namesE; rw [if_neg h1]
    have e2 : shV S = ⟨#[]⟩ := by unfold shV; rw [if_neg (by rw [e1]; omega)]; rfl
    have hne : ((S.length : Int) != 1) = true := by simp; omega
    rw [e1, e2]
    clear e1 e2 h1 HS
    go_enter Tryd.func28, Tryd.ntmps28
    go_wp2_with fail
    go_ret2
    exact ⟨rfl, rfl⟩

/-- the line of a word and the fields behind it -/
def lineL (w : List UInt8) (p : List UInt8 → Bool) (S : List ByteArray) : List UInt8 := if S.all (fun s => p s.data.toList) then w ++ [32] ++ Lib.join (S.map (·.data.toList)) [32] else []
def lineE (p : List UInt8 → Bool) (S : List ByteArray) : Int := if S.all (fun s => p s.data.toList) then 0 else 2

theorem join_len (S : List ByteArray) (hS1 : 1 ≤ S.length) (hS2 : S.length ≤ 2) (hle : ∀ s ∈ S, s.data.toList.length ≤ 100) : (Lib.join (S.map (·.data.toList)) [32]).length ≤ 1000 := by
  match S, hS1, hS2 with
  | [x], _, _ => simp [Lib.join]; have := hle x (by simp); simp at this; omega
  | [x, y], _, _ => simp [Lib.join]; have := hle x (by simp); have := hle y (by simp); simp at *; omega
set_option maxHeartbeats 1000000 in
theorem line46 (f : Nat) (p : List UInt8 → Bool) (hf : Tells f p) (hp : ∀ l, p l = true → l.length ≤ 100) (word : ByteArray) (hw : word.size ≤ 100) (S : List ByteArray) (b : Nat) (hS1 : 1 ≤ S.length) (hS2 : S.length ≤ 2) (W : World) (hb : b < W.heap.size) (hS : StrsAt W (some ⟨b, 0, none⟩) S) :
    Calls Tryd.prog 46 #[.func (.func f) #[] #[], .string word, .slice (some ⟨b, 0, none⟩) S.length S.length] W fun e w' => e = .returned (.tuple #[.string (bytesOf (lineL word.data.toList p S)), .int .i64 (lineE p S)]) ∧ Below W.heap.size W w' := by
  have hn := names45 f p hf S (some ⟨b, 0, none⟩) S.length S.length W hS (by unfold maxLen; omega)
  have hx : lineL word.data.toList p S = if S.all (fun s => p s.data.toList) then word.data.toList ++ [32] ++ Lib.join (S.map (·.data.toList)) [32] else [] := rfl
  have hE : lineE p S = if S.all (fun s => p s.data.toList) then 0 else 2 := rfl
  have hN : namesE p S S.length = if S.all (fun s => p s.data.toList) then 0 else 9 := by unfold namesE; rw [if_pos rfl]
  by_cases h0 : S.all (fun s => p s.data.toList) = true
  · rw [if_pos h0] at hx hE hN
    rw [hN] at hn
    rw [hx, hE]
    have hlen : (Lib.join (S.map (·.data.toList)) [32]).length ≤ 1000 := by
      exact join_len S hS1 hS2 (fun s hs => hp _ (List.all_eq_true.1 h0 s hs))
    have HN := Lib.hid hn
    have hj : ∀ V : World, Below W.heap.size W V → Calls Tryd.prog 33 #[.slice (some ⟨b, 0, none⟩) S.length S.length, .string ⟨#[32]⟩] V fun e w' => e = .returned (.string (bytesOf (Lib.join (S.map (·.data.toList)) [32]))) ∧ Below V.heap.size V w' := by
      intro V hV
      have k1 : S.length ≤ 140737488355328 := by omega
      have k2 : (Lib.join (S.map (·.data.toList)) (⟨#[32]⟩ : ByteArray).data.toList).length ≤ 140737488355328 := Nat.le_trans hlen (by decide)
      have k3 : b < V.heap.size := by have := hV.size; omega
      have k0 : ∀ (j : Nat) x, S[j]? = some x → V.cell? ⟨b, 0 + j, none⟩ = some (.string x) := by
        intro j x hx
        have hjl : j < S.length := (List.getElem?_eq_some_iff.1 hx).1
        have h1 := ((hS.keep hV).cell j hjl).1
        rw [h1, getD_lt hjl, (List.getElem?_eq_some_iff.1 hx).2]
      have hj0 := Tryd.strings_Join b 0 S.length S ⟨#[32]⟩ V k0 k3 k1 (Nat.le_refl _) k2
      exact hj0
    have HJ := Lib.hid hj
    obtain ⟨J, hJ⟩ : ∃ J, bytesOf (Lib.join (S.map (·.data.toList)) [32]) = J := ⟨_, rfl⟩
    have hJs : J.size ≤ 1000 := by rw [← hJ, ← len_eq, bytesOf_list]; exact hlen
    have hfin : word ++ ⟨#[32]⟩ ++ J = bytesOf (word.data.toList ++ [32] ++ Lib.join (S.map (·.data.toList)) [32]) := by
      apply bytesOf_eq
      rw [ByteArray.data_append, ByteArray.data_append, Array.toList_append, Array.toList_append, ← hJ]
      rfl
    rw [hJ] at HJ
    have HF := Lib.hid hfin
    clear hn hx hE hN hS hf hp h0 hlen hj hJ hfin
    go_enter Tryd.func46, Tryd.ntmps46
    go_wp2_with (first | (go_at_call 45; refine HN.out.mono ?_; rintro e V ⟨rfl, hV⟩) | (go_at_call 33; refine (HJ.out _ hV).mono ?_; rintro e V2 ⟨rfl, hV2⟩))
    go_ret2
    exact ⟨by rw [← HF.out]; rfl, hV.trans (hV2.mono hV.size)⟩
  · rw [if_neg h0] at hx hE hN
    rw [hN] at hn
    rw [hx, hE]
    have HN := Lib.hid hn
    clear hn hx hE hN hS hf hp h0
    go_enter Tryd.func46, Tryd.ntmps46
    go_wp2_with (go_at_call 45; refine HN.out.mono ?_; rintro e V ⟨rfl, hV⟩)
    go_ret2
    exact ⟨rfl, hV⟩

theorem zone_len (l : List UInt8) (h : zoneOk l = true) : l.length ≤ 100 := by
  unfold zoneOk at h; simp at h; omega
theorem set_len (l : List UInt8) (h : setOk l = true) : l.length ≤ 100 := by
  unfold setOk ofOk at h; simp at h; omega

set_option maxHeartbeats 1000000 in
theorem print29 (t n : ByteArray) (ht : t.size ≤ maxLen) (hn : n.size ≤ maxLen) (W : World) :
    Calls Tryd.prog 29 #[.agg #[.string t, .string n]] W fun e w' => e = .returned (.tuple #[.string (bytesOf (lineL [76, 105, 110, 107] zoneOk [t, n])), .int .i64 (lineE zoneOk [t, n])]) ∧ Below W.heap.size W w' := by
  go_enter Tryd.func29, Tryd.ntmps29
  go_wp2_with fail
  refine (line46 13 zoneOk tells13 zone_len ⟨#[76, 105, 110, 107]⟩ (by decide) [t, n] _ (by simp) (by simp) _ ?_ ?_).mono ?_
  · simp
  · right
    refine ⟨_, 0, rfl, fun i hi => ?_⟩
    rw [World.cell?_alloc_at _ _ _ _ (by simp)]
    match i, hi with
    | 0, _ => exact ⟨rfl, ht⟩
    | 1, _ => exact ⟨rfl, hn⟩
  · rintro e V ⟨rfl, hV⟩
    go_wp2
    go_ret2
    exact ⟨rfl, ((((Below.refl _ W).alloc (Nat.le_refl _) _).alloc (by simp) _).trans (hV.mono (by simp; omega)))⟩

set_option maxHeartbeats 1000000 in
theorem printShift31 (s : ByteArray) (hs : s.size ≤ maxLen) (W : World) :
    Calls Tryd.prog 31 #[.string s] W fun e w' => e = .returned (.tuple #[.string (bytesOf (lineL [83, 104, 105, 102, 116] setOk [s])), .int .i64 (lineE setOk [s])]) ∧ Below W.heap.size W w' := by
  go_enter Tryd.func31, Tryd.ntmps31
  go_wp2_with fail
  refine (line46 15 setOk tells15 set_len ⟨#[83, 104, 105, 102, 116]⟩ (by decide) [s] _ (by simp) (by simp) _ ?_ ?_).mono ?_
  · simp
  · right
    refine ⟨_, 0, rfl, fun i hi => ?_⟩
    rw [World.cell?_alloc_at _ _ _ _ (by simp)]
    match i, hi with
    | 0, _ => exact ⟨rfl, hs⟩
  · rintro e V ⟨rfl, hV⟩
    go_wp2
    go_ret2
    exact ⟨rfl, (((Below.refl _ W).alloc (Nat.le_refl _) _).trans (hV.mono (by simp)))⟩

set_option maxHeartbeats 1000000 in
theorem refPrint30 (t n : ByteArray) (ht : t.size ≤ maxLen) (hn : n.size ≤ maxLen) (W : World) :
    Calls Tryd.prog 30 #[.agg #[.string t, .string n]] W fun e w' => e = .returned (.tuple #[.string (bytesOf (lineL [76, 105, 110, 107] zoneOk [t, n])), .int .i64 (lineE zoneOk [t, n])]) ∧ Below W.heap.size W w' := by
  have H1 := Lib.hid (fun V => ref_zone t ht V)
  have H2 := Lib.hid (fun V => ref_zone n hn V)
  unfold maxLen at ht hn
  have hx : lineL [76, 105, 110, 107] zoneOk [t, n] = if zoneOk t.data.toList && zoneOk n.data.toList then [76, 105, 110, 107] ++ [32] ++ (t.data.toList ++ [32] ++ n.data.toList) else [] := by
    unfold lineL; simp [Lib.join]
  have hE : lineE zoneOk [t, n] = if zoneOk t.data.toList && zoneOk n.data.toList then 0 else 2 := by unfold lineE; simp
  cases h1 : zoneOk t.data.toList
  · rw [h1] at H1 hx hE
    rw [hx, hE]
    clear hx hE h1 H2
    go_enter Tryd.func30, Tryd.ntmps30
    go_wp2_with (go_at_call 14; refine (H1.out _).mono ?_; rintro e w' ⟨rfl, rfl⟩)
    go_ret2
    exact ⟨rfl, (Below.refl _ W).alloc (Nat.le_refl _) _⟩
  · have hl1 := zone_len _ h1
    rw [len_eq] at hl1
    rw [h1] at H1 hx hE
    cases h2 : zoneOk n.data.toList
    · rw [h2] at H2 hx hE
      rw [hx, hE]
      clear hx hE h1 h2
      go_enter Tryd.func30, Tryd.ntmps30
      go_wp2_with fail
      refine (H1.out _).mono ?_
      rintro e w' ⟨rfl, rfl⟩
      go_wp2_with fail
      refine (H2.out _).mono ?_
      rintro e w' ⟨rfl, rfl⟩
      go_wp2
      go_ret2
      exact ⟨rfl, (Below.refl _ W).alloc (Nat.le_refl _) _⟩
    · have hl2 := zone_len _ h2
      rw [len_eq] at hl2
      rw [h2] at H2 hx hE
      replace hx := hx.trans (if_pos rfl)
      replace hE := hE.trans (if_pos rfl)
      have hfin : (⟨#[76, 105, 110, 107, 32]⟩ : ByteArray) ++ t ++ ⟨#[32]⟩ ++ n = bytesOf ([76, 105, 110, 107] ++ [32] ++ (t.data.toList ++ [32] ++ n.data.toList)) := by
        apply bytesOf_eq
        simp [ByteArray.data_append]
      have hbo : bytesOf (lineL [76, 105, 110, 107] zoneOk [t, n]) = (⟨#[76, 105, 110, 107, 32]⟩ : ByteArray) ++ t ++ ⟨#[32]⟩ ++ n := by rw [hx]; exact hfin.symm
      rw [hbo, hE]
      clear hx hE h1 h2 hfin hbo
      go_enter Tryd.func30, Tryd.ntmps30
      go_wp2_with fail
      refine (H1.out _).mono ?_
      rintro e w' ⟨rfl, rfl⟩
      go_wp2_with fail
      refine (H2.out _).mono ?_
      rintro e w' ⟨rfl, rfl⟩
      go_wp2
      go_ret2
      exact ⟨rfl, (Below.refl _ W).alloc (Nat.le_refl _) _⟩

set_option maxHeartbeats 1000000 in
theorem refPrintShift32 (s : ByteArray) (hs : s.size ≤ maxLen) (W : World) :
    Calls Tryd.prog 32 #[.string s] W fun e w' => e = .returned (.tuple #[.string (bytesOf (lineL [83, 104, 105, 102, 116] setOk [s])), .int .i64 (lineE setOk [s])]) ∧ W = w' := by
  have H1 := Lib.hid (fun V => ref_set s hs V)
  unfold maxLen at hs
  have hx : lineL [83, 104, 105, 102, 116] setOk [s] = if setOk s.data.toList then [83, 104, 105, 102, 116] ++ [32] ++ s.data.toList else [] := by
    unfold lineL; simp [Lib.join]
  have hE : lineE setOk [s] = if setOk s.data.toList then 0 else 2 := by unfold lineE; simp
  cases h1 : setOk s.data.toList
  · rw [h1] at H1 hx hE
    rw [hx, hE]
    clear hx hE h1
    go_enter Tryd.func32, Tryd.ntmps32
    go_wp2_with (go_at_call 16; refine (H1.out _).mono ?_; rintro e w' ⟨rfl, rfl⟩)
    go_ret2
    exact ⟨rfl, rfl⟩
  · have hl1 := set_len _ h1
    rw [len_eq] at hl1
    rw [h1] at H1 hx hE
    replace hx := hx.trans (if_pos rfl)
    replace hE := hE.trans (if_pos rfl)
    have hfin : (⟨#[83, 104, 105, 102, 116, 32]⟩ : ByteArray) ++ s = bytesOf ([83, 104, 105, 102, 116] ++ [32] ++ s.data.toList) := by
      apply bytesOf_eq
      simp [ByteArray.data_append]
    have hbo : bytesOf (lineL [83, 104, 105, 102, 116] setOk [s]) = (⟨#[83, 104, 105, 102, 116, 32]⟩ : ByteArray) ++ s := by rw [hx]; exact hfin.symm
    rw [hbo, hE]
    clear hx hE h1 hfin hbo
    go_enter Tryd.func32, Tryd.ntmps32
    go_wp2_with (go_at_call 16; refine (H1.out _).mono ?_; rintro e w' ⟨rfl, rfl⟩)
    go_ret2
    exact ⟨rfl, rfl⟩
end Go.Proofs.YticmkjcaekhgpaaDoor
