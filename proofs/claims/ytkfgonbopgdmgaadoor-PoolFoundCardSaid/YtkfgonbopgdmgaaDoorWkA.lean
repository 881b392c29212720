/- The functions names, has and works of the laws of chapter 39: the examples of the chapter hold. -/
import Derived.Test.YtkfgonbopgdmgaaDoorPoE
import Derived.Test.YtkfgonbopgdmgaaDoorRfA
import Derived.Test.YtkfgonbopgdmgaaDoorAbR
namespace Go.Proofs.YtkfgonbopgdmgaaDoor.Px
open Go.RowKit
open Po St Tb

/-- the name of a number -/
def nameL (i : Nat) : List UInt8 := 65 :: Lib.itoa (100 + (i : Int))
def namesL (n : Nat) : List (List UInt8) := (List.range n).map nameL
theorem namesL_succ (n : Nat) : namesL (n + 1) = namesL n ++ [nameL n] := by unfold namesL; rw [List.range_succ, List.map_append]; rfl
theorem namesL_len (n : Nat) : (namesL n).length = n := by unfold namesL; simp
theorem name_small : ((List.range 100).all fun i => decide ((Lib.itoa (100 + (i : Int))).length = 3)) = true := by kernel_rfl
theorem name_len {i : Nat} (h : i < 100) : (Lib.itoa (100 + (i : Int))).length = 3 := by
  have := List.all_eq_true.1 name_small i (List.mem_range.2 h)
  simpa using this
set_option maxHeartbeats 2000000 in
theorem names_any (n : Nat) (hn : n ≤ 100) (W : World) (hE : EnvAt W) :
    Calls Tryd.prog 31 #[.int .i64 (n : Int)] W fun e w' => ∃ v, e = .returned v ∧ Kp [] [⟨v, 9, 1, (namesL n).length, (namesL n).map sv⟩] W w' := by
  have HE := Lib.hid hE
  have K0 := Lib.hid (show Kp [] [⟨.slice none 0 0, 9, 1, 0, (namesL 0).map sv⟩] W W from (Kp.start W).fresh 9 1)
  obtain ⟨i0, hi, hz0, hz1, hz2⟩ := info_parts' infoS
  clear hE
  go_enter Tryd.func31, Tryd.ntmps31
  go_wp2_with fail
  go_loopw [3, 4, 6] (fun v3 _ v6 wr => ∃ i : Nat, i ≤ n ∧ v6 = .int .i64 (i : Int) ∧ Kp [] [⟨v3, 9, 1, i, (namesL i).map sv⟩] W wr) (fun _ _ v6 _ => n - (intOf v6).toNat)
  case atStart => exact ⟨0, by omega, rfl, K0.out⟩
  case round =>
    obtain ⟨i, hi', rfl, hk⟩ := hrel
    obtain ⟨a3, c3, rfl⟩ : ∃ a c, u3 = .slice a i c := own_slice (hk.row 0 rfl)
    have HK := Lib.hid hk
    clear hk K0
    by_cases hlt : i < n
    · have C := Lib.hid (itoa_any (100 + (i : Int)) (by omega) (by omega) wr (HE.out.keep HK.out.below))
      have hl3 := name_len (i := i) (by omega)
      have hsn := Lib.hid (namesL_succ i)
      obtain ⟨z, hz⟩ : ∃ z, Lib.itoa (100 + (i : Int)) = z := ⟨_, rfl⟩
      have HZ := Lib.hid (show nameL i = 65 :: z by unfold nameL; rw [hz])
      rw [hz] at C hl3
      have hs3 : (bs z).size = 3 := hl3
      obtain ⟨Z, hZ⟩ : ∃ Z, bs z = Z := ⟨_, rfl⟩
      rw [hZ] at C hs3
      have hcat : ¬ 9223372036854775807 < 1 + Z.size := by omega
      have HZ2 := Lib.hid (show (⟨#[65]⟩ : ByteArray) ++ Z = bs (nameL i) by rw [HZ.out, ← hZ]; exact bs_ext (by unfold bs; simp))
      clear hz hl3 hZ
      go_wp2_with fail
      refine C.out.mono ?_
      rintro e w1 ⟨rfl, hB⟩
      have K1 := Lib.hid ((HK.out.keep hB).allocAt w1.heap.size rfl (.cells #[.string ((⟨#[65]⟩ : ByteArray) ++ Z)] 9))
      clear hB
      go_wp2_with (first
        | (at_builtin; refine wpList_append_own_at _ rfl (.tmp 9) (.tmp 14) 22 rfl W.heap.size 9 i0 (.string ⟨#[]⟩) 1 16 Tryd.underlying22 hi hz0 hz1 hz2 rfl (by decide) _ i _ rfl (K1.out.row 0 rfl) ⟨w1.heap.size, 0, none⟩ 1 1 [.string ((⟨#[65]⟩ : ByteArray) ++ Z)] rfl rfl ?c1 ?c2 ?c3 ?c4 ?c5 ?_; (case c1 => exact World.news_of_block (K1.out.at 0 rfl)); (case c2 => simp [Value.oneCell']); (case c3 => unfold maxLen; omega); (case c4 => omega); (case c5 => exact K1.out.below.size); intro v' w2 hown hgrow _ hat; have K2 := Lib.hid (K1.out.append hown hgrow hat).drop; clear hown hgrow hat)
        | go_in)
      go_roundw
      case rel =>
        refine ⟨i + 1, by omega, by go_num, ?_⟩
        rw [hsn.out, svs_snoc, ← HZ2.out]
        exact K2.out
      case measure => simp [intOf]; omega
    · obtain rfl : i = n := by omega
      go_wp2_with fail
      refine bodyPost_ret (v := .slice a3 i c3) (by simp [results, Tryd.results31, go_sem]) rfl ⟨_, rfl, ?_⟩
      rw [namesL_len]
      exact HK.out
set_option maxHeartbeats 2000000 in
/-- has, at an example that holds -/
theorem has_true (want : ByteArray) (A : List Int) (L : List (List UInt8)) (pv lv : Value) (W : World) (hE : EnvAt W) (hp : SlV W pv 1 A.length (ints A)) (hV : StrV W lv L) (hmax : L.length ≤ 100000) (hf : ∀ l ∈ L, l.length ≤ 1000000)
    (hw : want.size ≤ 1000000) (hw2 : want.size + Lib.countB want ⟨#[46]⟩ * 1 ≤ 140737488355328)
    (h1 : abbrsS L = Lib.replaceAll want.data.toList [46] [0]) (h2 : abbrsA L = A) (h3 : abbrsE L = 0) :
    Calls Tryd.prog 33 #[.string want, pv, lv] W fun e w' => e = .returned (.bool true) ∧ Below W.heap.size W w' := by
  obtain ⟨mx, hmx⟩ := hE.mx
  have C := Lib.hid (abbrs_any L lv W mx hV hmax hf hmx)
  have CR := Lib.hid (fun (X : World) (hB : Below W.heap.size W X) => Tryd.strings_ReplaceAll want ⟨#[46]⟩ ⟨#[0]⟩ mx X (by omega) ((hB.cell (p := ⟨0, 0, none⟩) (block_lt_of_cell hmx)).trans hmx) (by decide) hw2)
  have HP := Lib.hid hp
  have hS : (⟨(Lib.replaceAll want.data.toList (⟨#[46]⟩ : ByteArray).data.toList (⟨#[0]⟩ : ByteArray).data.toList).toArray⟩ : ByteArray) = bs (abbrsS L) := by rw [h1]; rfl
  rw [hS] at CR
  rw [h2, h3] at C
  obtain ⟨S, hS2⟩ : ∃ S, bs (abbrsS L) = S := ⟨_, rfl⟩
  rw [hS2] at C CR
  clear hE hV hmax hf hw hw2 h1 h2 h3 hmx hp hS hS2
  go_enter Tryd.func33, Tryd.ntmps33
  go_wp2_with fail
  refine C.out.mono ?_
  rintro e w1 ⟨ov, rfl, hk⟩
  have HK := Lib.hid hk
  clear hk
  go_wp2_with fail
  refine (CR.out w1 HK.out.below).mono ?_
  rintro e w2 ⟨rfl, hB⟩
  have HB := Lib.hid hB
  clear hB
  have CE := Lib.hid (equal_ints A A ov pv w2 (SlV.keep (SlV.of_own (HK.out.row 0 rfl)) HB.out) (SlV.keep HP.out (HK.out.below.trans (HB.out.mono HK.out.below.size))))
  rw [decide_eq_true rfl] at CE
  go_wp2_with fail
  refine CE.out.mono ?_
  rintro e w3 ⟨rfl, hB3⟩
  have HB3 := Lib.hid hB3
  clear hB3
  go_wp2_with fail
  refine bodyPost_ret (v := .bool true) (by simp [results, Tryd.results33, go_sem]) rfl ⟨rfl, ?_⟩
  have k1 := HK.out.below
  have k2 := HB.out.mono k1.size
  exact (k1.trans k2).trans (HB3.out.mono (k1.trans k2).size)
end Go.Proofs.YtkfgonbopgdmgaaDoor.Px
