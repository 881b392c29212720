/- How an argument of type []uint8 or [][]uint8, read as data, lies in memory. -/
import Derived.Test.YticmkjcaekhgpaaDoorLetters
import Derived.Test.YticmkjcaekhgpaaDoorLaw
import Derived.Deep.Matrix
import Derived.SliceStrings
namespace Go.Proofs.YticmkjcaekhgpaaDoor
open Go.ChangeShapes Go.WideShapes Go.ChangeAt Go.RowKit Go.Deep

def byteOf (z : Int) : UInt8 := UInt8.ofNat z.toNat
theorem byteOf_wf {z : Int} (h : (Lit.int .u8 z).wf = true) : ((byteOf z).toNat : Int) = z := by
  have hb := bounds_u8 h
  unfold byteOf
  rw [UInt8.toNat_ofNat', Nat.mod_eq_of_lt (by omega)]
  omega
theorem getD_map_byte (zs : List Int) (i : Nat) (hi : i < zs.length) : (zs.map byteOf).getD i 0 = byteOf (zs.getD i 0) := by
  rw [getD_lt (by simpa using hi), getD_lt hi]
  simp
theorem getD_mem {zs : List Int} {i : Nat} (hi : i < zs.length) : zs.getD i 0 ∈ zs := by rw [getD_lt hi]; exact List.getElem_mem hi

theorem bytesAt_of {W : World} {a : Addr} {zs : List Int} {len : Nat} (hl : len ≤ zs.length) (hcell : ∀ i, i < zs.length → W.cell? (a.add i) = some (.int .u8 (zs.getD i 0))) (hwz : ∀ n ∈ zs, (Lit.int .u8 n).wf = true) :
    BytesAt W (some a) ((zs.take len).map byteOf) := by
  by_cases h0 : len = 0
  · left; rw [h0]; rfl
  · right
    obtain ⟨b, off, rfl, hc⟩ := ints_at hcell (by omega)
    refine ⟨b, off, rfl, fun i hi => ?_⟩
    have hi' : i < len := by simp at hi; omega
    rw [hc i (by omega), getD_map_byte _ _ (by simp; omega)]
    have e : (zs.take len).getD i 0 = zs.getD i 0 := by
      rw [getD_lt (by simp; omega), getD_lt (by omega)]; simp
    rw [e, byteOf_wf (hwz _ (getD_mem (by omega)))]

theorem open_bytes {H : Type} {enc : TypeId × Value → H} {W : World} {base : Nat} {v : Value} {d : DataW H} {ps : List MemPlace} (hval : Value.okWide Tryd.prog W .any base 25 v)
    (hd : DataW.Trod enc Tryd.prog W 0 (fun _ => true) true 25 v d ps) : ∃ (a : Option Addr) (cap : Nat) (L : List UInt8), v = .slice a L.length cap ∧ L.length ≤ maxLen ∧ L.length ≤ cap ∧ cap ≤ maxLen ∧ BytesAt W a L := by
  obtain ⟨a0, len, cap, rfl⟩ := okWide_slice Tryd.underlying25 hval
  obtain ⟨fuel, hf⟩ := hd
  rcases open_ints Tryd.underlying25 Tryd.underlying5 (by kernel_rfl) hf with ⟨hcs, _⟩ | ⟨a, len', cap', zs, hcs, _, hl, hm, hz, _, hcell, hwz⟩
  · simp [Value.cells] at hcs
    obtain ⟨rfl, rfl, rfl⟩ := hcs
    exact ⟨none, 0, [], rfl, by simp, by simp, by simp, .inl rfl⟩
  · simp [Value.cells] at hcs
    obtain ⟨rfl, rfl, rfl⟩ := hcs
    simp at hz
    refine ⟨some a, cap, (zs.take len).map byteOf, ?_, ?_, ?_, hm, bytesAt_of (by omega) hcell hwz⟩
    · simp; omega
    · simp; omega
    · simp; omega

/-- a slice of slices of bytes in memory, that reads as a list of lists -/
def RowsAt (W : World) (a : Option Addr) (R : List (List UInt8)) : Prop :=
  R = [] ∨ ∃ b off, a = some ⟨b, off, none⟩ ∧ ∀ i, i < R.length → ∃ (x : Option Addr) (c : Nat), W.cell? ⟨b, off + i, none⟩ = some (.slice x (R.getD i []).length c) ∧ (R.getD i []).length ≤ c ∧ c ≤ maxLen ∧ BytesAt W x (R.getD i [])

theorem open_rows {H : Type} {enc : TypeId × Value → H} {W : World} {base : Nat} {v : Value} {d : DataW H} {ps : List MemPlace} (hval : Value.okWide Tryd.prog W .any base 24 v)
    (hd : DataW.Trod enc Tryd.prog W 0 (fun _ => true) true 24 v d ps) : ∃ (a : Option Addr) (cap : Nat) (R : List (List UInt8)), v = .slice a R.length cap ∧ R.length ≤ cap ∧ cap ≤ maxLen ∧ RowsAt W a R := by
  obtain ⟨a0, len, cap, rfl⟩ := okWide_slice Tryd.underlying24 hval
  obtain ⟨fuel, hf⟩ := hd
  rcases open_int_rows Tryd.underlying24 Tryd.underlying25 Tryd.underlying5 (by kernel_rfl) (by kernel_rfl) hf with ⟨hcs, _⟩ | ⟨a, len', cap', A, L, C, Z, hcs, _, hl, hm, _, hr⟩
  · simp [Value.cells] at hcs
    obtain ⟨rfl, rfl, rfl⟩ := hcs
    exact ⟨none, 0, [], rfl, by simp, by simp, .inl rfl⟩
  · simp [Value.cells] at hcs
    obtain ⟨rfl, rfl, rfl⟩ := hcs
    have hlen : ((List.range len).map fun r => (Z r |>.take (L r)).map byteOf).length = len := by simp
    refine ⟨some a, cap, (List.range len).map fun r => (Z r |>.take (L r)).map byteOf, by rw [hlen], by rw [hlen]; exact hl, hm, ?_⟩
    by_cases h0 : len = 0
    · left; rw [h0]; rfl
    right
    obtain ⟨h00, _⟩ := hr 0 (by omega)
    obtain ⟨b, off, spot⟩ := a
    have hspot : spot = none := by simpa [Addr.add] using World.cell?_spot h00
    subst hspot
    refine ⟨b, off, rfl, fun i hi => ?_⟩
    rw [hlen] at hi
    obtain ⟨h1, h2, h3, h4, h5, h6, h7⟩ := hr i (by omega)
    have e : ((List.range len).map fun r => (Z r |>.take (L r)).map byteOf).getD i [] = (Z i |>.take (L i)).map byteOf := by
      rw [getD_lt (by simpa using hi)]; simp
    have el : ((Z i |>.take (L i)).map byteOf).length = L i := by simp; omega
    refine ⟨A i, C i, ?_, by rw [e, el]; exact h2, h3, ?_⟩
    · rw [e, el, ← WideShapes.add_plain]; exact h1
    · rw [e]
      cases hA : A i with
      | none =>
        left
        have := h6 hA
        have : L i = 0 := by omega
        rw [this]; rfl
      | some a' =>
        refine bytesAt_of (by omega) ?_ h5
        intro c hc
        exact (h7 a' hA).2 c (by omega)

/-- a slice of strings in memory -/
def StrsAt (W : World) (a : Option Addr) (S : List ByteArray) : Prop :=
  S = [] ∨ ∃ b off, a = some ⟨b, off, none⟩ ∧ ∀ i, i < S.length → W.cell? ⟨b, off + i, none⟩ = some (.string (S.getD i ByteArray.empty)) ∧ (S.getD i ByteArray.empty).size ≤ maxLen
theorem open_strs {H : Type} {enc : TypeId × Value → H} {W : World} {base : Nat} {v : Value} {d : DataW H} {ps : List MemPlace} (hval : Value.okWide Tryd.prog W .any base 31 v)
    (hd : DataW.Trod enc Tryd.prog W 0 (fun _ => true) true 31 v d ps) : ∃ (a : Option Addr) (cap : Nat) (S : List ByteArray), v = .slice a S.length cap ∧ S.length ≤ cap ∧ cap ≤ maxLen ∧ StrsAt W a S := by
  obtain ⟨a0, len, cap, rfl⟩ := okWide_slice Tryd.underlying31 hval
  obtain ⟨fuel, hf⟩ := hd
  rcases open_strings Tryd.underlying31 Tryd.underlying9 (by kernel_rfl) hf with ⟨hcs, _⟩ | ⟨a, len', cap', ss, hcs, _, hl, hm, hz, _, hcell, hws⟩
  · simp [Value.cells] at hcs
    obtain ⟨rfl, rfl, rfl⟩ := hcs
    exact ⟨none, 0, [], rfl, by simp, by simp, .inl rfl⟩
  · simp [Value.cells] at hcs
    obtain ⟨rfl, rfl, rfl⟩ := hcs
    simp at hz
    refine ⟨some a, cap, ss.take len, by simp; omega, by simp; omega, hm, ?_⟩
    by_cases h0 : len = 0
    · left; rw [h0]; rfl
    right
    have h00 := hcell 0 (by omega)
    obtain ⟨b, off, spot⟩ := a
    have hspot : spot = none := by simpa [Addr.add] using World.cell?_spot h00
    subst hspot
    refine ⟨b, off, rfl, fun i hi => ?_⟩
    have hi' : i < len := by simp at hi; omega
    have e : (ss.take len).getD i ByteArray.empty = ss.getD i ByteArray.empty := by rw [getD_lt (by simpa using hi), getD_lt (by omega)]; simp
    rw [e, ← WideShapes.add_plain]
    exact ⟨hcell i (by omega), hws _ (by rw [getD_lt (by omega)]; exact List.getElem_mem _)⟩
end Go.Proofs.YticmkjcaekhgpaaDoor
