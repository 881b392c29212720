/- Slices of bytes, and of slices of bytes, that are handed to a law; the strings of letters that a law makes of them (analemmalaw07.Letters, analemmalaw39.Letters). -/
import Derived.Test.YtkfgonbopgdmgaaDoorPoE
import Derived.Test.YtkfgonbopgdmgaaDoorRfA
import Derived.Deep.Matrix
namespace Go.Proofs.YtkfgonbopgdmgaaDoor.Px
open Go.RowKit
open Go.ChangeShapes Go.WideShapes Go.Deep

def u8v (c : UInt8) : Value := .int .u8 (c.toNat : Int)
/-- a slice of bytes in memory -/
def BytesV (W : World) (v : Value) (L : List UInt8) : Prop := SlV W v 1 L.length (L.map u8v)
theorem BytesV.keep {W W' : World} {v : Value} {L : List UInt8} (h : BytesV W v L) (hB : Below W.heap.size W W') : BytesV W' v L := SlV.keep h hB
/-- a slice of slices of bytes in memory -/
def RowsV (W : World) (v : Value) (R : List (List UInt8)) : Prop :=
  ∃ a c, v = .slice a R.length c ∧ R.length ≤ c ∧ c ≤ maxLen ∧ (R.length = 0 ∨ ∃ b o, a = some ⟨b, o, none⟩ ∧ b < W.heap.size ∧ ∀ (i : Nat) (r : List UInt8), R[i]? = some r → ∃ u, W.cell? ⟨b, o + i, none⟩ = some u ∧ BytesV W u r)
theorem RowsV.keep {W W' : World} {v : Value} {R : List (List UInt8)} (h : RowsV W v R) (hB : Below W.heap.size W W') : RowsV W' v R := by
  obtain ⟨a, c, e, h1, h2, h3⟩ := h
  refine ⟨a, c, e, h1, h2, ?_⟩
  rcases h3 with h3 | ⟨b, o, ea, hb, hc⟩
  · exact .inl h3
  · refine .inr ⟨b, o, ea, Nat.lt_of_lt_of_le hb hB.size, fun i r hr => ?_⟩
    obtain ⟨u, h4, h5⟩ := hc i r hr
    exact ⟨u, (hB.cell (p := ⟨b, o + i, none⟩) hb).trans h4, h5.keep hB⟩
def byteOf (z : Int) : UInt8 := UInt8.ofNat z.toNat
theorem byteOf_wf {z : Int} (h : (Lit.int .u8 z).wf = true) : ((byteOf z).toNat : Int) = z := by
  have hb := bounds_u8 h
  unfold byteOf
  rw [UInt8.toNat_ofNat', Nat.mod_eq_of_lt (by omega)]
  omega
theorem bytes_of {W : World} {a : Option Addr} {len cap : Nat} {zs : List Int} (hl : len ≤ cap) (hm : cap ≤ maxLen) (hz : len ≤ zs.length) (hw : ∀ n ∈ zs, (Lit.int .u8 n).wf = true)
    (hn : a = none → cap = 0) (hc : ∀ a', a = some a' → ∀ c, c < len → W.cell? (a'.add c) = some (.int .u8 (zs.getD c 0))) : BytesV W (.slice a len cap) ((zs.take len).map byteOf) := by
  have hlen : ((zs.take len).map byteOf).length = len := by rw [List.length_map, List.length_take]; omega
  refine ⟨by simp, a, cap, by rw [hlen], by rw [hlen]; exact hl, hm, ?_⟩
  by_cases h0 : len = 0
  · left; rw [hlen]; exact h0
  right
  cases a with
  | none => exact absurd (hn rfl) (by omega)
  | some a' =>
    have h00 := hc a' rfl 0 (by omega)
    obtain ⟨b, off, spot⟩ := a'
    have hspot : spot = none := by simpa [Addr.add] using World.cell?_spot h00
    subst hspot
    refine ⟨b, off, rfl, ?_, fun j u hu => ?_⟩
    · rw [WideShapes.add_plain] at h00
      exact block_lt_of_cell h00
    · have hj : j < len := by
        have := (List.getElem?_eq_some_iff.1 hu).1
        rw [List.length_map, hlen] at this
        exact this
      have h1 := hc _ rfl j hj
      rw [WideShapes.add_plain] at h1
      rw [h1, ← hu, List.getElem?_map, List.getElem?_map, List.getElem?_take, if_pos hj, List.getElem?_eq_getElem (by omega)]
      have hmem : zs[j]'(by omega) ∈ zs := List.getElem_mem _
      simp only [Option.map_some, u8v, List.getD, List.getElem?_eq_getElem (show j < zs.length by omega), Option.getD_some]
      rw [byteOf_wf (hw _ hmem)]
section
variable {H : Type} {enc : TypeId × Value → H} {w : World} {base : Nat} {held : Bool}
set_option maxRecDepth 100000 in
theorem open_u8s_arg {r : Reach} {b0 : Nat} {v : Value} {d : DataW H} {p : List MemPlace} (hv : Value.okWide Tryd.prog w r b0 42 v) (h : DataW.Trod enc Tryd.prog w base (fun _ => true) held 42 v d p) :
    ∃ L : List UInt8, BytesV w v L := by
  obtain ⟨fuel, hf⟩ := slice_cells Tryd.underlying42 hv h
  rcases open_ints Tryd.underlying42 Tryd.underlying5 (by kernel_rfl) hf with ⟨hcs, _⟩ | ⟨a, len, cap, zs, hcs, _, hl, hm, hz, _, hcell, hws⟩
  · simp only [List.cons.injEq, and_true] at hcs
    subst hcs
    exact ⟨[], SlV.nil w 1⟩
  · simp only [List.cons.injEq, and_true] at hcs
    subst hcs
    have hz' : len ≤ zs.length := by rw [hz, if_pos rfl]; exact hl
    exact ⟨_, bytes_of hl hm hz' hws (fun e => by cases e) (fun a' e c hc => by cases e; exact hcell c (by omega))⟩
set_option maxRecDepth 100000 in
theorem open_rows_arg {r : Reach} {b0 : Nat} {v : Value} {d : DataW H} {p : List MemPlace} (hv : Value.okWide Tryd.prog w r b0 41 v) (h : DataW.Trod enc Tryd.prog w base (fun _ => true) held 41 v d p) :
    ∃ R : List (List UInt8), RowsV w v R := by
  obtain ⟨fuel, hf⟩ := slice_cells Tryd.underlying41 hv h
  rcases open_int_rows Tryd.underlying41 Tryd.underlying42 Tryd.underlying5 (by kernel_rfl) (by kernel_rfl) hf with ⟨hcs, _⟩ | ⟨a, len, cap, A, L, C, Z, hcs, _, hl, hm, _, hr⟩
  · simp only [List.cons.injEq, and_true] at hcs
    subst hcs
    exact ⟨[], none, 0, rfl, by simp, by simp, .inl rfl⟩
  · simp only [List.cons.injEq, and_true] at hcs
    subst hcs
    have hlen : ((List.range len).map fun r => (Z r |>.take (L r)).map byteOf).length = len := by simp
    refine ⟨(List.range len).map fun r => (Z r |>.take (L r)).map byteOf, some a, cap, by rw [hlen], by rw [hlen]; exact hl, hm, ?_⟩
    by_cases h0 : len = 0
    · left; rw [hlen]; exact h0
    right
    obtain ⟨h00, _⟩ := hr 0 (by omega)
    obtain ⟨b, off, spot⟩ := a
    have hspot : spot = none := by simpa [Addr.add] using World.cell?_spot h00
    subst hspot
    refine ⟨b, off, rfl, ?_, fun i q hq => ?_⟩
    · rw [WideShapes.add_plain] at h00
      exact block_lt_of_cell h00
    · have hi : i < len := by
        have := (List.getElem?_eq_some_iff.1 hq).1
        rw [hlen] at this
        exact this
      obtain ⟨h1, h2, h3, h4, h5, h6, h7⟩ := hr i (by omega)
      rw [WideShapes.add_plain] at h1
      have e : q = (Z i |>.take (L i)).map byteOf := by
        rw [List.getElem?_map, List.getElem?_range hi] at hq
        simpa using hq.symm
      subst e
      exact ⟨_, h1, bytes_of h2 h3 (by omega) h5 h6 (fun a' e c hc => (h7 a' e).2 c (by omega))⟩
end
/-- the letters -/
def alphaL : List UInt8 := [65, 66, 67, 68, 69, 70, 71, 72, 73, 74, 75, 76, 77, 78, 79, 80, 81, 82, 83, 84, 85, 86, 87, 88, 89, 90, 97, 98, 99, 100, 101, 102, 103, 104, 105, 106, 107, 108, 109, 110, 111, 112, 113, 114, 115, 116, 117, 118, 119, 120, 121, 122]
def lettC (L : List UInt8) (i : Nat) : UInt8 := (L[i]?).getD (UInt8.ofNat (i * 7))
def lettAt (L : List UInt8) (i : Nat) : UInt8 := (alphaL[(lettC L i).toNat % 52]?).getD 65
def lettN (L : List UInt8) (least most : Nat) : Nat := min most (max L.length least)
def lettersOf (L : List UInt8) (least most : Nat) : List UInt8 := (List.range (lettN L least most)).map (lettAt L)
theorem alpha_ext (j : Nat) (h : j < 52) : ((bs alphaL).extract j (j + 1)).data.toList = [(alphaL[j]?).getD 65] := by
  rw [piece_is, Nat.add_sub_cancel_left]
  have hj : j < alphaL.length := h
  rw [List.drop_eq_getElem_cons hj, List.getElem?_eq_getElem hj]
  rfl
theorem lett_step (L : List UInt8) (k : Nat) (s : ByteArray) (j : Nat) (c : UInt8) (hc : lettC L k = c) (hs : s = bs ((List.range k).map (lettAt L))) (hj : j = c.toNat % 52) :
    s ++ (bs alphaL).extract j (j + 1) = bs ((List.range (k + 1)).map (lettAt L)) := by
  apply bs_ext
  rw [ByteArray.data_append, Array.toList_append, alpha_ext j (by omega), hs, List.range_succ, List.map_append, bs_list, bs_list]
  simp [lettAt, hc, hj]
set_option maxHeartbeats 1000000 in
theorem letters07_any (L : List UInt8) (v : Value) (least most : Nat) (hle : least ≤ 1000) (hmo : most ≤ 1000) (W : World) (hV : BytesV W v L) :
    Calls Tryd.prog 48 #[v, .int .i64 least, .int .i64 most] W fun e w' => e = .returned (.string (bs (lettersOf L least most))) ∧ W = w' := by
  obtain ⟨a, c, rfl, hc1, hc2⟩ := hV.sl
  have hall := fun h0 => hV.all h0
  obtain ⟨n, hn⟩ : ∃ n, L.length = n := ⟨_, rfl⟩
  have hN : lettN L least most = min most (max n least) := by unfold lettN; rw [hn]
  obtain ⟨N, hN2⟩ : ∃ N, lettN L least most = N := ⟨_, rfl⟩
  rw [hN2] at hN
  have HO := Lib.hid (show lettersOf L least most = (List.range N).map (lettAt L) by unfold lettersOf; rw [hN2])
  rw [hn] at hall hc1 ⊢
  unfold maxLen at hc2
  have HA := Lib.hid hall
  have HN := Lib.hid hn
  have HNN := Lib.hid hN
  clear hV hall hn hN hN2
  go_enter Tryd.func48, Tryd.ntmps48
  go_wp2_with fail
  go_loopw [7, 8, 9] (fun o i _ wr => ∃ (k : Nat) (s : ByteArray), k ≤ 1000 ∧ k ≤ N ∧ i = .int .i64 k ∧ o = .string s ∧ s.size = k ∧ s = bs ((List.range k).map (lettAt L)) ∧ W = wr) (fun _ i _ _ => 1000 - (intOf i).toNat)
  case atStart => exact ⟨0, ⟨#[]⟩, by omega, by omega, rfl, rfl, rfl, rfl, rfl⟩
  case round =>
    obtain ⟨k, s, hk, hkn, rfl, rfl, hsz, hs, rfl⟩ := hrel
    have HS := Lib.hid hs
    have hsz' : s.size ≤ 1000 := by omega
    have HZ := Lib.hid hsz
    have HKN := Lib.hid hkn
    clear hs hsz hkn
    by_cases h1 : k < most
    · by_cases h2 : k < n
      · obtain ⟨b, o, c', e1, _, _, hb, hcell⟩ := HA.out (by omega)
        simp only [Value.slice.injEq] at e1
        obtain ⟨rfl, _, rfl⟩ := e1
        obtain ⟨x, hx⟩ : ∃ x, L[k]? = some x := ⟨_, List.getElem?_eq_getElem (by rw [HN.out]; exact h2)⟩
        have k0 : W.cell? ⟨b, o + k, none⟩ = some (.int .u8 (x.toNat : Int)) := hcell k (u8v x) (by rw [List.getElem?_map, hx]; rfl)
        have HC := Lib.hid (show lettC L k = x by unfold lettC; rw [hx]; rfl)
        have hcl : (x.toNat : Int) ≤ 255 := by have := x.toNat_lt; omega
        clear hcell hx
        have HST := Lib.hid (fun j hj => lett_step L k s j x HC.out HS.out hj)
        go_wp2_with fail
        go_roundw
        case rel =>
          refine ⟨k + 1, _, by omega, by have := HNN.out; omega, by go_num, rfl, ?_, HST.out _ (by omega), (by first | trivial | rfl)⟩
          refine (congrArg ByteArray.size (HST.out _ (by omega))).trans ?_
          show ((List.range (k + 1)).map (lettAt L)).length = k + 1
          simp
        case measure => simp [intOf]; omega
      · by_cases h3 : k < least
        · have HC := Lib.hid (show lettC L k = UInt8.ofNat (k * 7) by unfold lettC; rw [List.getElem?_eq_none (by rw [HN.out]; omega)]; rfl)
          have HST := Lib.hid (fun j hj => lett_step L k s j (UInt8.ofNat (k * 7)) HC.out HS.out hj)
          go_wp2_with fail
          go_roundw
          case rel =>
            refine ⟨k + 1, _, by omega, by have := HNN.out; omega, by go_num, rfl, ?_, HST.out _ (by simp), (by first | trivial | rfl)⟩
            refine (congrArg ByteArray.size (HST.out _ (by simp))).trans ?_
            show ((List.range (k + 1)).map (lettAt L)).length = k + 1
            simp
          case measure => simp [intOf]; omega
        · go_wp2_with fail
          refine bodyPost_ret (v := .string s) (by simp [results, Tryd.results48, go_sem]) rfl ⟨?_, rfl⟩
          rw [HO.out, HS.out, show N = k by have := HNN.out; have := HKN.out; omega]
    · go_wp2_with fail
      refine bodyPost_ret (v := .string s) (by simp [results, Tryd.results48, go_sem]) rfl ⟨?_, rfl⟩
      rw [HO.out, HS.out, show N = k by have := HNN.out; have := HKN.out; omega]
/-- the strings of letters of a law -/
def lettersF (R : List (List UInt8)) : List (List UInt8) := (R.take 30).map (fun r => lettersOf r 3 6)
set_option maxHeartbeats 4000000 in
set_option maxRecDepth 100000 in
theorem letters39_any (R : List (List UInt8)) (v : Value) (W : World) (hV : RowsV W v R) :
    Calls Tryd.prog 20 #[v] W fun e w' => ∃ ov, e = .returned ov ∧ Kp [] [⟨ov, 9, 1, (lettersF R).length, (lettersF R).map sv⟩] W w' := by
  obtain ⟨a, c, rfl, hc1, hc2, hall⟩ := hV
  obtain ⟨n, hn⟩ : ∃ n, R.length = n := ⟨_, rfl⟩
  obtain ⟨m, hm⟩ : ∃ m, min n 30 = m := ⟨_, rfl⟩
  have hLl : (lettersF R).length = m := by unfold lettersF; rw [List.length_map, List.length_take]; omega
  rw [hn] at hall hc1 ⊢
  unfold maxLen at hc2
  have HA := Lib.hid hall
  have HN := Lib.hid hn
  have HL := Lib.hid hLl
  have hm30 : m ≤ 30 := by omega
  have hmn : m ≤ n := by omega
  have HM := Lib.hid hm
  have K0 := Lib.hid (show Kp [] [⟨.slice none 0 0, 9, 1, 0, ((lettersF R).take 0).map sv⟩] W W from (Kp.start W).fresh 9 1)
  obtain ⟨i0, hi, hz0, hz1, hz2⟩ := info_parts' infoS
  have hmi : min (n : Int) 30 = (m : Int) := by omega
  have hmx : max (m : Int) 0 = (m : Int) := by omega
  clear hall hn hLl hm
  go_enter Tryd.func20, Tryd.ntmps20
  go_wp2_with fail
  clear hmi hmx
  go_loopw [3, 5, 12] (fun v3 _ v12 wr => ∃ i : Nat, i ≤ m ∧ v12 = .int .i64 (i : Int) ∧ Kp [] [⟨v3, 9, 1, i, ((lettersF R).take i).map sv⟩] W wr) (fun _ _ v12 _ => m - (intOf v12).toNat)
  case atStart => exact ⟨0, by omega, rfl, K0.out⟩
  case round =>
    obtain ⟨i, hi', rfl, hk⟩ := hrel
    obtain ⟨a3, c3, rfl⟩ : ∃ a c, u3 = .slice a i c := own_slice (hk.row 0 rfl)
    have HK := Lib.hid hk
    clear hk K0
    by_cases hlt : i < m
    · rcases HA.out with h0 | ⟨b, o, rfl, hb, hcell⟩
      · omega
      obtain ⟨r, hr⟩ : ∃ r, R[i]? = some r := ⟨_, List.getElem?_eq_getElem (by rw [HN.out]; omega)⟩
      obtain ⟨u, hu, hbv⟩ := hcell i r hr
      have k0 := (HK.out.below.cell (p := ⟨b, o + i, none⟩) hb).trans hu
      have hbw := Nat.lt_of_lt_of_le hb HK.out.below.size
      have C := Lib.hid (letters07_any r u 3 6 (by decide) (by decide) wr (hbv.keep HK.out.below))
      have ht := Lib.hid (show (lettersF R).take (i + 1) = (lettersF R).take i ++ [lettersOf r 3 6] by
        rw [List.take_add_one]
        unfold lettersF
        rw [List.getElem?_map, List.getElem?_take, if_pos (by omega), hr]
        rfl)
      obtain ⟨z, hz⟩ : ∃ z, lettersOf r 3 6 = z := ⟨_, rfl⟩
      rw [hz] at C ht
      obtain ⟨sz, hsz⟩ : ∃ s, bs z = s := ⟨_, rfl⟩
      rw [hsz] at C
      have HSz := Lib.hid hsz
      have K1 := Lib.hid (HK.out.allocAt wr.heap.size rfl (.cells #[.string sz] 9))
      clear hcell hr hu hbv hz hsz
      go_wp2_with fail
      refine C.out.mono ?_
      rintro e w1 ⟨rfl, rfl⟩
      go_wp2_with (first
        | (at_builtin; refine wpList_append_own_at _ rfl (.tmp 16) (.tmp 19) 22 rfl W.heap.size 9 i0 (.string ⟨#[]⟩) 1 16 Tryd.underlying22 hi hz0 hz1 hz2 rfl (by decide) _ i _ rfl (K1.out.row 0 rfl) ⟨wr.heap.size, 0, none⟩ 1 1 [.string sz] rfl rfl ?c1 ?c2 ?c3 ?c4 ?c5 ?_; (case c1 => exact World.news_of_block (K1.out.at 0 rfl)); (case c2 => simp [Value.oneCell']); (case c3 => unfold maxLen; omega); (case c4 => omega); (case c5 => exact K1.out.below.size); intro v' w2 hown hgrow _ hat; have K2 := Lib.hid (K1.out.append hown hgrow hat).drop; clear hown hgrow hat)
        | go_in)
      go_roundw
      case rel =>
        refine ⟨i + 1, by omega, by go_num, ?_⟩
        rw [ht.out, svs_snoc, HSz.out]
        exact K2.out
      case measure => simp [intOf]; omega
    · obtain rfl : i = m := by omega
      have hLt : (lettersF R).take i = lettersF R := List.take_of_length_le (by rw [HL.out]; exact Nat.le_refl _)
      have hk := HK.out
      rw [hLt] at hk
      have HK2 := Lib.hid hk
      clear hk hLt
      go_wp2_with fail
      refine bodyPost_ret (v := .slice a3 i c3) (by simp [results, Tryd.results20, go_sem]) rfl ⟨_, rfl, ?_⟩
      rw [HL.out]
      exact HK2.out
end Go.Proofs.YtkfgonbopgdmgaaDoor.Px
