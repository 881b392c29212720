/- strings.Contains by one byte, and strings.Join, over texts that read as lists. -/
import Derived.Test.YtjdckmhlgcjdgaaDoorLxW
import Derived.Lib.Bytealg
namespace Go.Proofs.YtjdckmhlgcjdgaaDoor.Lx
open Go.RowKit
open Lex (strV bytesOf)

theorem indexByte_mem (l : List UInt8) (c : UInt8) : decide (0 ≤ Lib.indexByte l c) = l.any (· == c) := by
  induction l with
  | nil => rfl
  | cons b r ih =>
    have hg := Lib.indexByte_ge r c
    have hd : Lib.indexByte (b :: r) c = if (b == c) = true then 0 else if (Lib.indexByte r c == -1) = true then -1 else Lib.indexByte r c + 1 := rfl
    rw [List.any_cons, ← ih, hd]
    by_cases e : (b == c) = true
    · simp [e]
    · have e' : (b == c) = false := by simpa using e
      rw [e', if_neg (by simp), Bool.false_or]
      by_cases h : Lib.indexByte r c = -1
      · rw [h]; rfl
      · have h' : (Lib.indexByte r c == -1) = false := by simpa using h
        rw [h', if_neg (by simp), decide_eq_decide]
        omega
theorem contains_c (b : Bool) (x : ByteArray) (c : UInt8) (h : x.data.toList.any (· == c) = b) (w : World) :
    Calls Tryd.prog 22 #[.string x, .string ⟨#[c]⟩] w fun e w' => e = .returned (.bool b) ∧ w = w' := by
  refine (Tryd.strings_Contains_one x c w).mono ?_
  rintro e V ⟨rfl, rfl⟩
  exact ⟨by rw [indexByte_mem, h], rfl⟩
/-- strings.Join by a text -/
theorem sjoin_c (F : List (List UInt8)) (sep o : ByteArray) (v : Value) (w : World) (hv : StrsV w v F) (hn : F.length ≤ 140737488355328) (ho : bytesOf (Lib.join F sep.data.toList) = o) (hz : o.size ≤ 140737488355328) :
    Calls Tryd.prog 27 #[v, .string sep] w fun e w' => e = .returned (.string o) ∧ Below w.heap.size w w' := by
  obtain ⟨a, c, rfl, hc, hm, h⟩ := hv
  rcases h with rfl | ⟨b, off, rfl, hcell⟩
  · refine (Tryd.strings_Join_none a c sep w).mono ?_
    rintro e V ⟨rfl, rfl⟩
    exact ⟨by rw [← ho]; rfl, Below.refl _ _⟩
  · by_cases h0 : F = []
    · subst h0
      refine (Tryd.strings_Join_none _ c sep w).mono ?_
      rintro e V ⟨rfl, rfl⟩
      exact ⟨by rw [← ho]; rfl, Below.refl _ _⟩
    · have hpos : 0 < F.length := List.length_pos_iff.2 h0
      have hmap : (F.map bytesOf).map (·.data.toList) = F := by
        rw [List.map_map]
        conv => rhs; rw [← List.map_id F]
        rfl
      have h1 := Tryd.strings_Join b off c (F.map bytesOf) sep w (fun j x hx => by
        rw [List.getElem?_map] at hx
        rcases Nat.lt_or_ge j F.length with hj | hj
        · rw [List.getElem?_eq_getElem hj] at hx
          injection hx with hx
          rw [hcell j hj, getD_lt hj, ← hx]; rfl
        · rw [List.getElem?_eq_none hj] at hx; cases hx) (block_lt_of_cell (hcell 0 hpos)) (by simpa using hn) (by simpa using hc) (by rw [hmap, ← bytesOf_size, ho]; exact hz)
      rw [hmap, List.length_map] at h1
      refine h1.mono ?_
      rintro e V ⟨rfl, hB⟩
      exact ⟨by rw [← ho]; rfl, hB⟩
end Go.Proofs.YtjdckmhlgcjdgaaDoor.Lx
