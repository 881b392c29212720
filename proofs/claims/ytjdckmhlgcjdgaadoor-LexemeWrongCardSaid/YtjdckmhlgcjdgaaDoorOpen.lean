/- How an argument of type []string, []uint8 or [][]uint8, read as data, lies in memory; slices.ContainsFunc over strings. -/
import Derived.Test.YtjdckmhlgcjdgaaDoorLxW
import Derived.Test.YtjdckmhlgcjdgaaDoorLaw
namespace Go.Proofs.YtjdckmhlgcjdgaaDoor
open Go.ChangeShapes Go.WideShapes Go.ChangeAt Go.RowKit Go.Deep
open Lx
open Lex (strV bytesOf)

def byteOf (z : Int) : UInt8 := UInt8.ofNat z.toNat
theorem byteOf_wf {z : Int} (h : (Lit.int .u8 z).wf = true) : ((byteOf z).toNat : Int) = z := by
  have hb := bounds_u8 h
  unfold byteOf
  rw [UInt8.toNat_ofNat', Nat.mod_eq_of_lt (by omega)]
  omega
theorem getD_map_byte (zs : List Int) (i : Nat) (hi : i < zs.length) : (zs.map byteOf).getD i 0 = byteOf (zs.getD i 0) := by
  rw [getD_lt (by simpa using hi), getD_lt hi]
  simp
theorem getD_mem {zs : List Int} {i : Nat} (hi : i < zs.length) : zs.getD i 0 ∈ zs := by rw [getD_lt hi]; exact List.getElem_mem hi

/-- a slice of bytes in memory, that reads as a list -/
def BytesAt (W : World) (a : Option Addr) (L : List UInt8) : Prop := L = [] ∨ ∃ b off, a = some ⟨b, off, none⟩ ∧ ∀ i, i < L.length → W.cell? ⟨b, off + i, none⟩ = some (.int .u8 ((L.getD i 0).toNat : Int))
theorem BytesAt.keep {W W' : World} {a : Option Addr} {L : List UInt8} (h : BytesAt W a L) (hB : Below W.heap.size W W') : BytesAt W' a L := by
  rcases h with h | ⟨b', off', e, hc⟩
  · exact .inl h
  · exact .inr ⟨b', off', e, fun i hi => (hB.cell (p := ⟨b', off' + i, none⟩) (block_lt_of_cell (hc i hi))).trans (hc i hi)⟩
theorem bytesAt_of {W : World} {a : Addr} {zs : List Int} {len : Nat} (hl : len ≤ zs.length) (hcell : ∀ i, i < zs.length → W.cell? (a.add i) = some (.int .u8 (zs.getD i 0))) (hwz : ∀ n ∈ zs, (Lit.int .u8 n).wf = true) :
    BytesAt W (some a) ((zs.take len).map byteOf) := by
  by_cases h0 : len = 0
  · left; rw [h0]; rfl
  · right
    obtain ⟨b, off, rfl, hc⟩ := ints_at hcell (by omega)
    refine ⟨b, off, rfl, fun i hi => ?_⟩
    have hi' : i < len := by simp at hi; omega
    rw [hc i (by omega), getD_map_byte _ _ (by simp; omega)]
    have e : (zs.take len).getD i 0 = zs.getD i 0 := by
      rw [getD_lt (by simp; omega), getD_lt (by omega)]; simp
    rw [e, byteOf_wf (hwz _ (getD_mem (by omega)))]

/-- a slice of slices of bytes in memory, that reads as a list of lists -/
def RowsAt (W : World) (a : Option Addr) (R : List (List UInt8)) : Prop :=
  R = [] ∨ ∃ b off, a = some ⟨b, off, none⟩ ∧ ∀ i, i < R.length → ∃ (x : Option Addr) (c : Nat), W.cell? ⟨b, off + i, none⟩ = some (.slice x (R.getD i []).length c) ∧ (R.getD i []).length ≤ c ∧ c ≤ maxLen ∧ BytesAt W x (R.getD i [])
theorem RowsAt.keep {W W' : World} {a : Option Addr} {R : List (List UInt8)} (h : RowsAt W a R) (hB : Below W.heap.size W W') : RowsAt W' a R := by
  rcases h with h | ⟨b', off', e, hc⟩
  · exact .inl h
  · refine .inr ⟨b', off', e, fun i hi => ?_⟩
    obtain ⟨x, c, h1, h2, h3, h4⟩ := hc i hi
    exact ⟨x, c, (hB.cell (p := ⟨b', off' + i, none⟩) (block_lt_of_cell h1)).trans h1, h2, h3, h4.keep hB⟩
theorem open_rows {H : Type} {enc : TypeId × Value → H} {W : World} {base : Nat} {v : Value} {d : DataW H} {ps : List MemPlace} {t : TypeId} (ht : Tryd.prog.underlying t = some (.slice 41)) (hval : Value.okWide Tryd.prog W .any base t v)
    (hd : DataW.Trod enc Tryd.prog W 0 (fun _ => true) true t v d ps) : ∃ (a : Option Addr) (cap : Nat) (R : List (List UInt8)), v = .slice a R.length cap ∧ R.length ≤ cap ∧ cap ≤ maxLen ∧ RowsAt W a R := by
  obtain ⟨a0, len, cap, rfl⟩ := okWide_slice ht hval
  obtain ⟨fuel, hf⟩ := hd
  rcases open_int_rows ht Tryd.underlying41 Tryd.underlying5 (by kernel_rfl) (by kernel_rfl) hf with ⟨hcs, _⟩ | ⟨a, len', cap', A, L, C, Z, hcs, _, hl, hm, _, hr⟩
  · simp [Value.cells] at hcs
    obtain ⟨rfl, rfl, rfl⟩ := hcs
    exact ⟨none, 0, [], rfl, by simp, by simp, .inl rfl⟩
  · simp [Value.cells] at hcs
    obtain ⟨rfl, rfl, rfl⟩ := hcs
    have hlen : ((List.range len).map fun r => (Z r |>.take (L r)).map byteOf).length = len := by simp
    refine ⟨some a, cap, (List.range len).map fun r => (Z r |>.take (L r)).map byteOf, by rw [hlen], by rw [hlen]; exact hl, hm, ?_⟩
    by_cases h0 : len = 0
    · left; rw [h0]; rfl
    right
    obtain ⟨h00, _⟩ := hr 0 (by omega)
    obtain ⟨b, off, spot⟩ := a
    have hspot : spot = none := by simpa [Addr.add] using World.cell?_spot h00
    subst hspot
    refine ⟨b, off, rfl, fun i hi => ?_⟩
    rw [hlen] at hi
    obtain ⟨h1, h2, h3, h4, h5, h6, h7⟩ := hr i (by omega)
    have e : ((List.range len).map fun r => (Z r |>.take (L r)).map byteOf).getD i [] = (Z i |>.take (L i)).map byteOf := by
      rw [getD_lt (by simpa using hi)]; simp
    have el : ((Z i |>.take (L i)).map byteOf).length = L i := by simp; omega
    refine ⟨A i, C i, ?_, by rw [e, el]; exact h2, h3, ?_⟩
    · rw [e, el, ← WideShapes.add_plain]; exact h1
    · rw [e]
      cases hA : A i with
      | none =>
        left
        have := h6 hA
        have : L i = 0 := by omega
        rw [this]; rfl
      | some a' =>
        refine bytesAt_of (by omega) ?_ h5
        intro c hc
        exact (h7 a' hA).2 c (by omega)

/-- a slice of strings that came in -/
theorem open_strv {H : Type} {enc : TypeId × Value → H} {W : World} {base : Nat} {v : Value} {d : DataW H} {ps : List MemPlace} (hval : Value.okWide Tryd.prog W .any base 23 v)
    (hd : DataW.Trod enc Tryd.prog W 0 (fun _ => true) true 23 v d ps) : ∃ L : List (List UInt8), StrsV W v L ∧ ∀ p ∈ L, p.length ≤ maxLen := by
  obtain ⟨a0, len, cap, rfl⟩ := okWide_slice Tryd.underlying23 hval
  obtain ⟨fuel, hf⟩ := hd
  rcases open_strings Tryd.underlying23 Tryd.underlying9 (by kernel_rfl) hf with ⟨hcs, _⟩ | ⟨a, len', cap', ss, hcs, _, hl, hm, hz, _, hcell, hws⟩
  · simp [Value.cells] at hcs
    obtain ⟨rfl, rfl, rfl⟩ := hcs
    exact ⟨[], StrsV.nil _, by simp⟩
  · simp [Value.cells] at hcs
    obtain ⟨rfl, rfl, rfl⟩ := hcs
    simp at hz
    have hlen : ((ss.take len).map (·.data.toList)).length = len := by simp; omega
    refine ⟨(ss.take len).map (·.data.toList), ⟨some a, cap, by rw [hlen], by rw [hlen]; exact hl, hm, ?_⟩, ?_⟩
    · by_cases h0 : len = 0
      · left; rw [h0]; rfl
      right
      have h00 := hcell 0 (by omega)
      obtain ⟨b, off, spot⟩ := a
      have hspot : spot = none := by simpa [Addr.add] using World.cell?_spot h00
      subst hspot
      refine ⟨b, off, rfl, fun i hi => ?_⟩
      rw [hlen] at hi
      rw [← WideShapes.add_plain, hcell i (by omega), getD_lt (by omega), getD_lt (by rw [hlen]; exact hi)]
      simp [strV, bytesOf]
    · intro p hp
      obtain ⟨x, hx, rfl⟩ := List.mem_map.1 hp
      exact hws x (List.mem_of_mem_take hx)

theorem idx_ge (q : List UInt8 → Bool) (L : List (List UInt8)) : decide (0 ≤ idx q L) = L.any q := by
  unfold idx
  cases h : L.any q
  · simp
  · simp
theorem contains_any (g : Nat) (q : List UInt8 → Bool) (N : Nat) (L : List (List UInt8)) (v : Value) (W : World) (h : StrsV W v L) (hl : ∀ p ∈ L, p.length ≤ N) (hef : ∀ args w, (callFunc g args).run Tryd.prog w = .ok (.enter g args) w)
    (hg : ∀ (p : List UInt8) (V : World), p.length ≤ N → Calls Tryd.prog g #[.string (bytesOf p)] V fun e w' => e = .returned (.bool (q p)) ∧ V = w') (b : Bool) (hb : L.any q = b) :
    Calls Tryd.prog 17 #[v, .func (.func g) #[] #[]] W fun e w' => e = .returned (.bool b) ∧ W = w' := by
  have HI := Lib.hid (index_any g q N L v W h hl hef hg)
  have HD := Lib.hid (idx_ge q L)
  obtain ⟨r, hr⟩ : ∃ r, idx q L = r := ⟨_, rfl⟩
  rw [hr, hb] at HD
  rw [hr] at HI
  clear h hl hg hef hr hb
  go_enter Tryd.func17, Tryd.ntmps17
  go_wp2_with fail
  refine HI.out.mono ?_
  rintro e V ⟨rfl, rfl⟩
  go_wp2
  go_ret
  exact ⟨by rw [← HD.out]; rfl, rfl⟩
end Go.Proofs.YtjdckmhlgcjdgaaDoor
