/- Slices of strings in memory that read as lists; slices.Equal and slices.IndexFunc over them. -/
import Derived.Test.YtjdckmhlgcjdgaaDoorLxP
import Derived.Test.YtjdckmhlgcjdgaaDoorLexB
import Derived.Test.YtjdckmhlgcjdgaaDoorShelf
import Derived.Laws.EntriesVeiled
namespace Go.Proofs.YtjdckmhlgcjdgaaDoor.Lx
open Go.RowKit
open Lex (strV bytesOf)

theorem getD_lt {α : Type} {l : List α} {i : Nat} {d : α} (h : i < l.length) : l.getD i d = l[i] := by simp [List.getD, h]
theorem bytesOf_list (l : List UInt8) : (bytesOf l).data.toList = l := rfl
theorem bytesOf_size (l : List UInt8) : (bytesOf l).size = l.length := rfl
theorem bytesOf_eq {b : ByteArray} {l : List UInt8} (h : b.data.toList = l) : b = bytesOf l := by subst h; rfl
theorem bytesOf_inj {l m : List UInt8} (h : bytesOf l = bytesOf m) : l = m := by
  have := congrArg (fun b : ByteArray => b.data.toList) h
  simpa [bytesOf_list] using this
theorem bytesOf_app (l m : List UInt8) : bytesOf l ++ bytesOf m = bytesOf (l ++ m) := by
  apply bytesOf_eq
  rw [ByteArray.data_append, Array.toList_append]; rfl
theorem block_lt_of_cell {w : World} {p : Addr} {v : Value} (h : w.cell? p = some v) : p.block < w.heap.size := by
  rcases Nat.lt_or_ge p.block w.heap.size with h' | h'
  · exact h'
  · simp [World.cell?, Array.getElem?_eq_none h'] at h

/-- a slice of strings in memory, that reads as a list -/
def StrsV (W : World) (v : Value) (L : List (List UInt8)) : Prop :=
  ∃ a c, v = .slice a L.length c ∧ L.length ≤ c ∧ c ≤ maxLen ∧ (L = [] ∨ ∃ b o, a = some ⟨b, o, none⟩ ∧ ∀ i, i < L.length → W.cell? ⟨b, o + i, none⟩ = some (strV (L.getD i [])))
theorem StrsV.keep {W W' : World} {v : Value} {L : List (List UInt8)} (h : StrsV W v L) (hB : Below W.heap.size W W') : StrsV W' v L := by
  obtain ⟨a, c, e, h1, h2, h3⟩ := h
  refine ⟨a, c, e, h1, h2, ?_⟩
  rcases h3 with h3 | ⟨b, o, ea, hc⟩
  · exact .inl h3
  · exact .inr ⟨b, o, ea, fun i hi => (hB.cell (p := ⟨b, o + i, none⟩) (block_lt_of_cell (hc i hi))).trans (hc i hi)⟩
theorem StrsV.keepB {B : Nat} {W W' : World} {v : Value} {L : List (List UInt8)} (h : StrsV W v L) (hB : Below B W W') (hz : W.heap.size ≤ B) : StrsV W' v L := h.keep (hB.mono hz)
theorem StrsV.drewN {W : World} {v : Value} {L : List (List UInt8)} (h : StrsV W v L) (n : Nat) : StrsV (W.drewN n) v L := h
theorem StrsV.of_own {W : World} {B : Nat} {v : Value} {L : List (List UInt8)} (h : W.ownsRow B 9 1 v L.length (L.map strV)) : StrsV W v L := by
  rcases h.2 with ⟨hv, h0⟩ | ⟨g, cap, cur, hv, _, hg, hn, hm, hc, ht⟩
  · have : L = [] := List.length_eq_zero_iff.1 h0
    subst this
    exact ⟨none, 0, hv, by simp, by unfold maxLen; omega, .inl rfl⟩
  · refine ⟨some ⟨g, 0, none⟩, cap, hv, hn, hm, .inr ⟨g, 0, rfl, fun i hi => ?_⟩⟩
    have e3 : cur[i]? = some (strV (L.getD i [])) := by
      have := congrArg (fun l => l[i]?) ht
      simp only [Nat.mul_one, List.getElem?_take, if_pos hi, Array.getElem?_toList, List.getElem?_map] at this
      rw [this, getD_lt hi, List.getElem?_eq_getElem hi]
      rfl
    simp [World.cell?, hg, e3]
theorem StrsV.nil (W : World) : StrsV W (.slice none 0 0) [] := ⟨none, 0, rfl, by simp, by unfold maxLen; omega, .inl rfl⟩
/-- a block of strings that has just been laid -/
theorem StrsV.of_block {W : World} {b : Nat} {L : List (List UInt8)} {c : Nat} {cs : Array Value} {t : TypeId} {z : Nat × Nat} (hb : W.heap[b]? = some (.cells cs t z)) (h1 : L.length ≤ c) (h2 : c ≤ maxLen) (hc : cs.toList.take L.length = L.map strV) : StrsV W (.slice (some ⟨b, 0, none⟩) L.length c) L := by
  refine ⟨_, c, rfl, h1, h2, .inr ⟨b, 0, rfl, fun i hi => ?_⟩⟩
  have e3 : cs[i]? = some (strV (L.getD i [])) := by
    have := congrArg (fun l => l[i]?) hc
    simp only [List.getElem?_take, if_pos hi, Array.getElem?_toList, List.getElem?_map] at this
    rw [this, getD_lt hi, List.getElem?_eq_getElem hi]
    rfl
  simp [World.cell?, hb, e3]

theorem map_inj {L M : List (List UInt8)} (h : L.map bytesOf = M.map bytesOf) : L = M := by
  induction L generalizing M with
  | nil => cases M with
    | nil => rfl
    | cons m r => simp at h
  | cons l r ih =>
    cases M with
    | nil => simp at h
    | cons m t =>
      simp only [List.map_cons, List.cons.injEq] at h
      rw [bytesOf_inj h.1, ih h.2]
/-- slices.Equal over slices of strings -/
theorem equal_any {v1 v2 : Value} {L1 L2 : List (List UInt8)} {W : World} (h1 : StrsV W v1 L1) (h2 : StrsV W v2 L2) :
    Calls Tryd.prog 14 #[v1, v2] W fun e w' => e = .returned (.bool (decide (L1 = L2))) ∧ ∃ q, W.drewN q = w' := by
  obtain ⟨a1, c1, rfl, hc1, hm1, k1⟩ := h1
  obtain ⟨a2, c2, rfl, hc2, hm2, k2⟩ := h2
  unfold maxLen at hm1 hm2
  by_cases hl : L1.length = L2.length
  · rcases k1 with rfl | ⟨b1, o1, rfl, e1⟩
    · refine (Tryd.slices_Equal_string_empty a1 a2 c1 L2.length c2 W (by omega)).mono ?_
      rintro e V ⟨rfl, rfl⟩
      refine ⟨?_, 0, rfl⟩
      have : L2 = [] := List.length_eq_zero_iff.1 hl.symm
      subst this
      rfl
    · rcases k2 with rfl | ⟨b2, o2, rfl, e2⟩
      · have : L1 = [] := List.length_eq_zero_iff.1 hl
        subst this
        refine (Tryd.slices_Equal_string_empty (some ⟨b1, o1, none⟩) a2 c1 0 c2 W (by omega)).mono ?_
        rintro e V ⟨rfl, rfl⟩
        exact ⟨rfl, 0, rfl⟩
      · have g : ∀ (L : List (List UInt8)) (j : Nat), j < (L.map bytesOf).length → Value.string ((L.map bytesOf).getD j ByteArray.empty) = strV (L.getD j []) := by
          intro L j hj
          rw [getD_lt hj, getD_lt (by simpa using hj), List.getElem_map]; rfl
        refine (Tryd.slices_Equal_string b1 o1 L1.length c1 b2 o2 L2.length c2 (L1.map bytesOf) (L2.map bytesOf) W (by simp) (by simp) (by omega) (by omega) (fun j hj => by rw [g _ _ hj]; exact e1 j (by simpa using hj)) (fun j hj => by rw [g _ _ hj]; exact e2 j (by simpa using hj))).mono ?_
        rintro e V ⟨rfl, q, rfl⟩
        refine ⟨?_, q, rfl⟩
        rw [List.take_of_length_le (by simp), List.take_of_length_le (by simp)]
        congr 2
        rw [decide_eq_decide]
        exact ⟨map_inj, fun h => by rw [h]⟩
  · refine (Tryd.slices_Equal_string_lens a1 a2 L1.length c1 L2.length c2 W hl).mono ?_
    rintro e V ⟨rfl, rfl⟩
    refine ⟨?_, 0, rfl⟩
    rw [decide_eq_false (fun h => hl (by rw [h]))]
theorem equal_is (b : Bool) {v1 v2 : Value} {L1 L2 : List (List UInt8)} {W : World} (h1 : StrsV W v1 L1) (h2 : StrsV W v2 L2) (hb : decide (L1 = L2) = b) :
    Calls Tryd.prog 14 #[v1, v2] W fun e w' => e = .returned (.bool b) ∧ ∃ q, W.drewN q = w' := by
  subst hb; exact equal_any h1 h2

/-- what slices.IndexFunc returns -/
def idx (q : List UInt8 → Bool) (L : List (List UInt8)) : Int := if L.any q = true then (L.findIdx q : Int) else -1
theorem idx_at {q : List UInt8 → Bool} {L : List (List UInt8)} {k : Nat} (hk : k < L.length) (hq : q (L.getD k []) = true) (hn : ∀ j, j < k → q (L.getD j []) = false) : idx q L = k := by
  unfold idx
  have hany : L.any q = true := List.any_eq_true.2 ⟨L[k], List.getElem_mem hk, by rwa [getD_lt hk] at hq⟩
  rw [if_pos hany]
  have : L.findIdx q = k := (List.findIdx_eq hk).2 ⟨by rwa [getD_lt hk] at hq, fun j hj => by
    have := hn j hj
    rwa [getD_lt (by omega)] at this⟩
  omega
theorem idx_no {q : List UInt8 → Bool} {L : List (List UInt8)} (hn : ∀ j, j < L.length → q (L.getD j []) = false) : idx q L = -1 := by
  unfold idx
  rw [if_neg]
  intro h
  obtain ⟨p, hp, hq⟩ := List.any_eq_true.1 h
  obtain ⟨j, hj, rfl⟩ := List.mem_iff_getElem.1 hp
  have := hn j hj
  rw [getD_lt hj] at this
  rw [this] at hq
  cases hq
theorem ret_int {k : IntKind} {a b : Int} (h : a = b) : Ending.returned (.int k a) = .returned (.int k b) := by rw [h]
set_option maxHeartbeats 1000000 in
theorem index_any (g : Nat) (q : List UInt8 → Bool) (N : Nat) (L : List (List UInt8)) (v : Value) (W : World) (h : StrsV W v L) (hl : ∀ p ∈ L, p.length ≤ N) (hef : ∀ args w, (callFunc g args).run Tryd.prog w = .ok (.enter g args) w)
    (hg : ∀ (p : List UInt8) (V : World), p.length ≤ N → Calls Tryd.prog g #[.string (bytesOf p)] V fun e w' => e = .returned (.bool (q p)) ∧ V = w') :
    Calls Tryd.prog 24 #[v, .func (.func g) #[] #[]] W fun e w' => e = .returned (.int .i64 (idx q L)) ∧ W = w' := by
  obtain ⟨a, c, rfl, h1, h2, h3⟩ := h
  unfold maxLen at h2
  have H3 := Lib.hid h3
  have HG := Lib.hid hg
  have HL := Lib.hid hl
  clear h3 hg hl
  go_enter Tryd.func24, Tryd.ntmps24
  go_wp2
  go_loop [5, 8] (fun _ i => ∃ k : Nat, k ≤ L.length ∧ i = .int .i64 k ∧ Hid (∀ j, j < k → q (L.getD j []) = false)) (fun _ i => L.length - (intOf i).toNat)
  case atStart => exact ⟨0, by omega, rfl, Lib.hid (fun j hj => by omega)⟩
  case round =>
    obtain ⟨k, hk, rfl, HN⟩ := hrel
    by_cases hlt : k < L.length
    · obtain ⟨p, hp⟩ : ∃ p, L.getD k [] = p := ⟨_, rfl⟩
      have hpl : p.length ≤ N := HL.out p (by rw [← hp, getD_lt hlt]; exact List.getElem_mem hlt)
      obtain ⟨b, o, rfl, hc⟩ : ∃ b o, a = some ⟨b, o, none⟩ ∧ W.cell? ⟨b, o + k, none⟩ = some (.string (bytesOf p)) := by
        rcases H3.out with h | ⟨b, o, ea, hc⟩
        · rw [h] at hlt; simp at hlt
        · exact ⟨b, o, ea, by rw [hc k hlt, hp]; rfl⟩
      have hcall := HG.out p W hpl
      obtain ⟨r, hr⟩ : ∃ r, q p = r := ⟨_, rfl⟩
      rw [hr] at hcall
      have HC := Lib.hid hcall
      have HR := Lib.hid (show q (L.getD k []) = r by rw [hp, hr])
      clear hcall hr hp
      cases r
      · go_wp2_with (refine HC.out.mono ?_; rintro e w' ⟨rfl, rfl⟩)
        go_round
        case rel => exact ⟨k + 1, by omega, by go_num, Lib.hid (fun j hj => by rcases (show j < k ∨ j = k by omega) with h | rfl; exact HN.out j h; exact HR.out)⟩
        case measure => simp [intOf]; omega
      · go_wp2_with (refine HC.out.mono ?_; rintro e w' ⟨rfl, rfl⟩)
        go_ret
        exact ⟨ret_int (idx_at hlt HR.out HN.out).symm, rfl⟩
    · obtain rfl : k = L.length := by omega
      go_wp2
      go_ret
      exact ⟨ret_int (idx_no HN.out).symm, rfl⟩
end Go.Proofs.YtjdckmhlgcjdgaaDoor.Lx
