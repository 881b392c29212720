/- The function Letters of the law of chapter 7, called with a slice of bytes that reads as a list, returns the letters that lettersOf says; no block changes. -/
import Derived.Test.YticmkjcaekhgpaaDoorWorks
import Derived.Outline
namespace Go.Proofs.YticmkjcaekhgpaaDoor
open Go.RowKit

def alpha52 : ByteArray := ⟨#[65, 66, 67, 68, 69, 70, 71, 72, 73, 74, 75, 76, 77, 78, 79, 80, 81, 82, 83, 84, 85, 86, 87, 88, 89, 90, 97, 98, 99, 100, 101, 102, 103, 104, 105, 106, 107, 108, 109, 110, 111, 112, 113, 114, 115, 116, 117, 118, 119, 120, 121, 122]⟩
def lettC (L : List UInt8) (i : Nat) : UInt8 := L.getD i (UInt8.ofNat (i * 7))
def lettAt (L : List UInt8) (i : Nat) : UInt8 := alpha52.data.toList.getD ((lettC L i).toNat % 52) 65
def lettN (L : List UInt8) (least most : Nat) : Nat := min most (max L.length least)
def lettersOf (L : List UInt8) (least most : Nat) : List UInt8 := (List.range (lettN L least most)).map (lettAt L)

/-- a slice of bytes in memory, that reads as a list -/
def BytesAt (W : World) (a : Option Addr) (L : List UInt8) : Prop := L = [] ∨ ∃ b off, a = some ⟨b, off, none⟩ ∧ ∀ i, i < L.length → W.cell? ⟨b, off + i, none⟩ = some (.int .u8 ((L.getD i 0).toNat : Int))

theorem getD_lt {α : Type} {l : List α} {i : Nat} {d : α} (h : i < l.length) : l.getD i d = l[i] := by simp [List.getD, h]
theorem getD_ge {α : Type} {l : List α} {i : Nat} {d : α} (h : l.length ≤ i) : l.getD i d = d := by simp [List.getD, h]
theorem alpha_ext (j : Nat) (h : j < 52) : (alpha52.extract j (j + 1)).data.toList = [alpha52.data.toList.getD j 65] := by
  have := ext_snoc alpha52 j j (Nat.le_refl _) h
  rw [this, ext_list]
  simp only [Nat.sub_self, List.take_zero, List.nil_append]
  rw [getD_lt (by exact h)]
  rfl
theorem lett_step (L : List UInt8) (least most k : Nat) (s : ByteArray) (j : Nat) (c : UInt8) (hc : lettC L k = c) (hs : s.data.toList = (List.range k).map (lettAt L)) (hk : k + 1 ≤ 1000) (hn : k + 1 ≤ lettN L least most)
    (hj : j = c.toNat % 52) :
    ∃ (k' : Nat) (s' : ByteArray), k' ≤ 1000 ∧ k' ≤ lettN L least most ∧ Value.int .i64 ((k : Int) + 1) = .int .i64 (k' : Int) ∧ Value.string (s ++ alpha52.extract j (j + 1)) = .string s' ∧ s'.size = k' ∧ s'.data.toList = (List.range k').map (lettAt L) := by
  have hj52 : j < 52 := by omega
  have e := alpha_ext j hj52
  have hl : (s ++ alpha52.extract j (j + 1)).data.toList = (List.range (k + 1)).map (lettAt L) := by
    rw [ByteArray.data_append, Array.toList_append, e, hs, List.range_succ, List.map_append]
    simp [lettAt, hc, hj]
  refine ⟨k + 1, _, hk, hn, by simp, rfl, ?_, hl⟩
  rw [← len_eq, hl]
  simp
set_option maxHeartbeats 1000000 in
theorem letters22 (L : List UInt8) (a : Option Addr) (cap : Nat) (least most : Nat) (hle : least ≤ 1000) (hmo : most ≤ 1000) (_hL : L.length ≤ maxLen) (W : World) (hB : BytesAt W a L) :
    Calls Tryd.prog 22 #[.slice a L.length cap, .int .i64 least, .int .i64 most] W fun e w' => ∃ o : ByteArray, e = .returned (.string o) ∧ o.data.toList = lettersOf L least most ∧ W = w' := by
  unfold maxLen at _hL
  have HB := Lib.hid hB
  clear hB
  go_enter Tryd.func22, Tryd.ntmps22
  go_wp2
  go_loop [7, 8, 9] (fun o i _ => ∃ (k : Nat) (s : ByteArray), k ≤ 1000 ∧ k ≤ lettN L least most ∧ i = .int .i64 k ∧ o = .string s ∧ s.size = k ∧ s.data.toList = (List.range k).map (lettAt L)) (fun _ i _ => 1000 - (intOf i).toNat)
  case atStart => exact ⟨0, ByteArray.empty, by omega, by omega, rfl, rfl, rfl, rfl⟩
  case round =>
    obtain ⟨k, s, hk, hkn, rfl, rfl, hsz, hs⟩ := hrel
    have HS := Lib.hid hs
    have hsz' : s.size ≤ 1000 := by omega
    have HZ := Lib.hid hsz
    have HN := Lib.hid hkn
    clear hs hsz hkn
    by_cases h1 : k < most
    · by_cases h2 : k < L.length
      · obtain ⟨c, hc⟩ : ∃ c : UInt8, L.getD k 0 = c := ⟨_, rfl⟩
        have hcc : lettC L k = c := by rw [← hc]; unfold lettC; rw [getD_lt h2, getD_lt h2]
        obtain ⟨b, off, rfl, hcell⟩ : ∃ b off, a = some ⟨b, off, none⟩ ∧ W.cell? ⟨b, off + k, none⟩ = some (.int .u8 (c.toNat : Int)) := by
          rcases HB.out with h | ⟨b, off, ha, hx⟩
          · rw [h] at h2; simp at h2
          · exact ⟨b, off, ha, by rw [hx k h2, hc]⟩
        have HC := Lib.hid hcc
        have hcl : (c.toNat : Int) ≤ 255 := by have := c.toNat_lt; omega
        clear hc hcc
        go_wp2
        go_round
        case rel => exact lett_step L least most k s _ c HC.out HS.out (by omega) (by unfold lettN; omega) (by omega)
        case measure => simp [intOf]; omega
      · by_cases h3 : k < least
        · have hcc : lettC L k = UInt8.ofNat (k * 7) := by unfold lettC; rw [getD_ge (by omega)]
          have HC := Lib.hid hcc
          clear hcc
          go_wp2
          go_round
          case rel => exact lett_step L least most k s _ _ HC.out HS.out (by omega) (by unfold lettN; omega) (by simp)
          case measure => simp [intOf]; omega
        · go_wp2
          go_ret
          refine ⟨s, rfl, ?_, rfl⟩
          have := HN.out
          rw [HS.out, show k = lettN L least most by unfold lettN at *; omega]
          rfl
    · go_wp2
      go_ret
      refine ⟨s, rfl, ?_, rfl⟩
      have := HN.out
      rw [HS.out, show k = lettN L least most by unfold lettN at *; omega]
      rfl
end Go.Proofs.YticmkjcaekhgpaaDoor
