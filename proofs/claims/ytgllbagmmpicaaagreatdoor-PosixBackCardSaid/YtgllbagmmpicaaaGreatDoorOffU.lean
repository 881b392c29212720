/- The function that offset.Parse makes: some digits from the front. -/
import Derived.Test.YtgllbagmmpicaaaGreatDoorPrQ
import Derived.Outline
namespace Go.Proofs.YtgllbagmmpicaaaGreatDoor.Off
open Go.RowKit
open Civ
open Px (len_list bs bs_list bs_size But)

/-- a variable that a function captures -/
def VarAt (w : World) (b : Nat) (l : List UInt8) : Prop := w.heap[b]? = some (.cells #[.string (bs l)] 9 (0, 0))
theorem VarAt.row {w : World} {b : Nat} {l : List UInt8} (h : VarAt w b l) : w.cell? ⟨b, 0, none⟩ = some (.string (bs l)) ∧ w.frozen? ⟨b, 0, none⟩ = false := ⟨Px.cells_at h 0, Px.free_at h 0⟩
theorem VarAt.set {w : World} {b : Nat} {l : List UInt8} (h : VarAt w b l) (m : List UInt8) : VarAt (w.setCell ⟨b, 0, none⟩ (.string (bs m))) b m := Px.cells_set h 0 _
theorem VarAt.keep {w w' : World} {b : Nat} {l : List UInt8} (h : VarAt w b l) (hB : Below w.heap.size w w') : VarAt w' b l := (hB.block b (lt_of_block h)).trans h
theorem VarAt.but {w w' : World} {b k : Nat} {l : List UInt8} (h : VarAt w k l) (hB : But b w w') (hne : k ≠ b) : VarAt w' k l := hB.heap h hne
def takeD (n : Nat) (l : List UInt8) : List UInt8 := run digQ (l.take n)
theorem takeD_of {n k : Nat} {l : List UInt8} (h1 : k ≤ n) (h2 : k ≤ l.length) (ha : (l.take k).all digQ = true) (h : k = n ∨ k = l.length ∨ ∃ hk : k < l.length, digQ l[k] = false) : takeD n l = l.take k := by
  unfold takeD
  have e : (l.take n).take k = l.take k := by rw [List.take_take, Nat.min_eq_left h1]
  have hl : (l.take n).length = min n l.length := List.length_take
  have := (run_of (p := digQ) k (l.take n) (by rw [List.length_take]; omega) (by rw [e]; exact ha) (by
    rcases h with h | h | ⟨hk, h⟩
    · left; omega
    · left; omega
    · by_cases hkn : k = n
      · left; omega
      · right; refine ⟨by omega, ?_⟩; rw [List.getElem_take]; exact h)).1
  rw [this, e]
set_option maxHeartbeats 2000000 in
theorem digits_any (n : Int) (n0 : 0 ≤ n) (n1 : n ≤ 1000) (b : Nat) (l : List UInt8) (hl : l.length ≤ 1000000) (w : World) (h : VarAt w b l) :
    Calls Tryz.prog 91 #[.int .i64 n, .pointer (some ⟨b, 0, none⟩)] w fun e w' => e = .returned (.string (bs (takeD n.toNat l))) ∧ But b w w' ∧ VarAt w' b (l.drop (takeD n.toNat l).length) := by
  have HV := Lib.hid h
  obtain ⟨c0, f0⟩ := h.row
  have hz := bs_size l
  have hd := bs_list l
  obtain ⟨s, hs⟩ : ∃ s, bs l = s := ⟨_, rfl⟩
  rw [hs] at c0 hz hd
  have z : s.size ≤ 1000000 := by omega
  have HS := Lib.hid hs
  have HZ := Lib.hid hz
  have HD := Lib.hid hd
  clear h hz hs hd
  go_enter Tryz.func91, Tryz.ntmps91
  go_wp2_with fail
  go_loop [4] (fun i => ∃ k : Nat, i = .int .i64 k ∧ (k : Int) ≤ n ∧ k ≤ s.size ∧ (l.take k).all digQ = true) (fun i => s.size - (intOf i).toNat)
  case atStart => exact ⟨0, rfl, n0, Nat.zero_le _, rfl⟩
  case round =>
    obtain ⟨k, rfl, hkn, hks, hall⟩ := hrel
    have HALL := Lib.hid hall
    have i1 : (k : Int) ≤ (s.size : Int) := by omega
    clear hall
    have hfin : ∀ (h : k = n.toNat ∨ k = l.length ∨ ∃ hk : k < l.length, digQ l[k] = false), (Ending.returned (.string (s.extract 0 k)) = .returned (.string (bs (takeD n.toNat l)))) ∧ But b w (w.setCell ⟨b, 0, none⟩ (.string (s.extract k s.size))) ∧ VarAt (w.setCell ⟨b, 0, none⟩ (.string (s.extract k s.size))) b (l.drop (takeD n.toNat l).length) := by
      intro h
      have e1 := takeD_of (n := n.toNat) (by omega) (by have := HZ.out; omega) HALL.out h
      have x1 : s.extract 0 k = bs (l.take k) := by rw [← HS.out, Lib.extract_eq, Nat.sub_zero, List.drop_zero, bs_list]; rfl
      have x2 : s.extract k s.size = bs (l.drop k) := by rw [← HS.out, Lib.extract_eq, bs_list, bs_size, List.take_of_length_le (by rw [List.length_drop]; omega)]; rfl
      rw [e1, x1, x2, List.length_take, show min k l.length = k by have := HZ.out; omega]
      exact ⟨rfl, But.set _ _ _, HV.out.set _⟩
    have HFIN := Lib.hid hfin
    clear hfin
    by_cases hlt : k < s.size
    · have i2 : (k : Int) < (s.size : Int) := by omega
      have i3 : decide ((k : Int) < (s.size : Int)) = true := decide_eq_true i2
      have i4 : (0 : Int) ≤ (k : Int) := by omega
      have hsk : ∀ hk : k < l.length, l[k] = s[k] := by
        intro hk
        have := HS.out
        subst this
        rfl
      have HSK := Lib.hid hsk
      have hkl : k < l.length := by have := HZ.out; omega
      clear hsk
      by_cases hn : (k : Int) < n
      · have i5 : decide ((k : Int) < n) = true := decide_eq_true hn
        by_cases h1 : 48 ≤ s[k].toNat
        · have j1 : decide ((48 : Int) ≤ (s[k].toNat : Int)) = true := decide_eq_true (by omega)
          by_cases h2 : s[k].toNat ≤ 57
          · have j2 : decide ((s[k].toNat : Int) ≤ 57) = true := decide_eq_true (by omega)
            have HA2 := Lib.hid (show (l.take (k + 1)).all digQ = true by
              rw [List.take_succ_eq_append_getElem hkl, List.all_append, HALL.out, HSK.out hkl]; simp [digQ_iff.2 ⟨h1, h2⟩])
            go_wp2_with fail
            exact ⟨⟨k + 1, by go_num, by omega, by omega, HA2.out⟩, by simp [intOf]; omega⟩
          · have j2 : decide ((s[k].toNat : Int) ≤ 57) = false := decide_eq_false (by omega)
            have HF := Lib.hid (HFIN.out (.inr (.inr ⟨hkl, by rw [HSK.out hkl]; unfold digQ; simp [h2]⟩)))
            go_wp2_with fail
            go_ret
            exact HF.out
        · have j1 : decide ((48 : Int) ≤ (s[k].toNat : Int)) = false := decide_eq_false (by omega)
          have HF := Lib.hid (HFIN.out (.inr (.inr ⟨hkl, by rw [HSK.out hkl]; unfold digQ; simp [h1]⟩)))
          go_wp2_with fail
          go_ret
          exact HF.out
      · have i5 : decide ((k : Int) < n) = false := decide_eq_false hn
        have HF := Lib.hid (HFIN.out (.inl (by omega)))
        go_wp2_with fail
        go_ret
        exact HF.out
    · have i3 : decide ((k : Int) < (s.size : Int)) = false := decide_eq_false (by omega)
      have HF := Lib.hid (HFIN.out (.inr (.inl (by have := HZ.out; omega))))
      go_wp2_with fail
      go_ret
      exact HF.out
end Go.Proofs.YtgllbagmmpicaaaGreatDoor.Off
