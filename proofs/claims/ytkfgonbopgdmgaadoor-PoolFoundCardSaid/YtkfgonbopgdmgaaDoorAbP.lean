/- The two functions inside pool.Abbrs: which strings cannot stand in a pool, and how a string is put into it. -/
import Derived.Test.YtkfgonbopgdmgaaDoorPoP
import Derived.Test.YtkfgonbopgdmgaaDoorCoF
import Derived.Test.YtkfgonbopgdmgaaDoorBuN
import Derived.Lib.IndexAny
namespace Go.Proofs.YtkfgonbopgdmgaaDoor.Px
open Go.RowKit
open Po

set_option maxHeartbeats 2000000 in
theorem pred_any (s : List UInt8) (w : World) : Calls Tryd.prog 34 #[.string (bs s)] w fun e w' => e = .returned (.bool (badB s)) ∧ w = w' := by
  have C := Lib.hid (Tryd.strings_Contains_one (bs s) 0 w)
  have HP := Lib.hid (show (s.isEmpty || decide (0 ≤ Lib.indexByte (bs s).data.toList 0)) = badB s by unfold badB; rw [Lib.contains_iff_indexByte]; rfl)
  cases s with
  | nil =>
    obtain ⟨S, hS⟩ : ∃ S, bs ([] : List UInt8) = S := ⟨_, rfl⟩
    have hs0 : S = ⟨#[]⟩ := hS.symm
    subst hs0
    clear C
    go_enter Tryd.func34, Tryd.ntmps34
    go_wp2_with fail
    go_ret
    exact ⟨rfl, rfl⟩
  | cons x r =>
    have hne : (bs (x :: r)).toList.isEmpty = false := by
      show (ByteArray.mk (x :: r).toArray).toList.isEmpty = false
      rw [ByteArray.toList_mk]
      rfl
    have hp := HP.out
    rw [List.isEmpty_cons, Bool.false_or] at hp
    rw [hp] at C
    obtain ⟨S, hS⟩ : ∃ S, bs (x :: r) = S := ⟨_, rfl⟩
    rw [hS] at hne C
    rw [hS]
    obtain ⟨q, hq⟩ : ∃ q, badB (x :: r) = q := ⟨_, rfl⟩
    rw [hq] at C
    rw [hq]
    clear HP hp hS hq
    go_enter Tryd.func34, Tryd.ntmps34
    go_wp2_with (go_at_call 35; refine C.out.mono ?_; rintro e w1 ⟨rfl, rfl⟩)
    go_ret
    refine ⟨?_, rfl⟩
    simp
/-- the places of the strings that have been put -/
def placeS (g : Lit → Option (DataW Unit)) (k : Lit) (i : Int) : Lit → Option (DataW Unit) := fun x => if x.sameKey k = true then some (.lit (.int .i64 i)) else g x
/-- builder, map and its box -/
def Pst (L : List (Nat × Obj)) (R : List Rw) (W : World) (b m q : Nat) (pool : List UInt8) (c : Nat) (g : Lit → Option (DataW Unit)) (X : World) : Prop :=
  ∃ n D, n ≤ c ∧ Kq b pool ((q, .cells #[.map (some m)] 66 (0, 0)) :: L) R [⟨m, 9, 3, n, D⟩] W X ∧ FnOf D g
theorem bs_w (s : List UInt8) : bs s ++ ⟨#[0]⟩ = bs (w s) := rfl
set_option maxHeartbeats 8000000 in
set_option maxRecDepth 100000 in
/-- put: the string's place in the pool, the pool where it is longer -/
theorem put_any {L : List (Nat × Obj)} {R : List Rw} {W X : World} {b m q c : Nat} {pool s : List UInt8} {g : Lit → Option (DataW Unit)} (mx : Int) (h : Pst L R W b m q pool c g X) (hform : Po.Form pool) (h0 : (0 : UInt8) ∉ s) (hl : s.length ≤ 1000000) (hpl : pool.length ≤ 255) (hc : c ≤ 1000000)
    (hm : W.cell? ⟨0, 0, none⟩ = some (.int .i64 mx)) :
    Calls Tryd.prog 37 #[.string (bs s), .pointer (some ⟨b, 0, none⟩), .pointer (some ⟨q, 0, none⟩)] X fun e w' => e = .returned (.bool (decide ((Po.step pool s).length ≤ 255))) ∧
      Pst L R W b m q (Po.step pool s) (c + 1) (placeS g (keyS s) (Lib.index (Po.step pool s) (w s))) w' := by
  obtain ⟨n, D, hn, hK, hD⟩ := h
  have hblk : 0 < W.heap.size := block_lt_of_cell hm
  have HM := Lib.hid (fun (Y : World) (hB : Below W.heap.size W Y) => (hB.cell (p := ⟨0, 0, none⟩) hblk).trans hm)
  have CS := Lib.hid (fun (Y : World) h hB => Tryd.Builder_String_any_k W.heap.size b pool Y h hB)
  have HK := Lib.hid hK
  have HD := Lib.hid hD
  have hfit := Lib.hid (keyS_is (l := s) (by unfold maxLen; omega))
  have CI := Lib.hid (fun (Y : World) h => Tryd.strings_Index (bs pool) (bs s ++ ⟨#[0]⟩) mx Y (by show pool.length < _; omega) h)
  have CL1 := Lib.hid (fun (Y : World) h => Tryd.Builder_Len_f W.heap.size b (Lib.byteCells pool) Y h)
  have CL2 := Lib.hid (fun (Y : World) h => Tryd.Builder_Len_f W.heap.size b (Lib.byteCells (Po.step pool s)) Y h)
  rw [Lib.byteCells_length] at CL1 CL2
  have hnm : n < maxLen := by unfold maxLen; omega
  obtain ⟨S, hS⟩ : ∃ S, bs s = S := ⟨_, rfl⟩
  have hcat : ¬ 9223372036854775807 < S.size + 1 := by rw [← hS]; show ¬ _ < s.length + 1; omega
  obtain ⟨Pb, hPb⟩ : ∃ Pb, bs pool = Pb := ⟨_, rfl⟩
  have CS' := Lib.hid (show ∀ (Y : World) (h : BuF W.heap.size b pool Y) (hB : W.heap.size ≤ Y.heap.size), Calls Tryd.prog 38 #[.pointer (some ⟨b, 0, none⟩)] Y fun e w' => e = .returned (.string Pb) ∧ (BuF W.heap.size b pool w' ∧ Below W.heap.size Y w' ∧ Lib.OthersKept 5 (some b) Y w') by rw [← hPb]; exact CS.out)
  obtain ⟨I, hI⟩ : ∃ I, Lib.index pool (w s) = I := ⟨_, rfl⟩
  have hI2 : Lib.index (bs pool).data.toList (bs s ++ ⟨#[0]⟩).data.toList = I := hI
  rw [hI2] at CI
  rw [hPb] at CI
  rw [hS] at CI hfit
  have hIl : I ≤ 1000 := by
    rcases index_cases pool (w s) with ⟨h1, _⟩ | ⟨j, h1, h2, _⟩
    · omega
    · omega
  clear hm hK hD CS hPb hI2
  by_cases hidx : I < 0
  · have CW := Lib.hid (fun (Y : World) (h : BuF W.heap.size b pool Y) hB => writeString_F (w s) h (by rw [w_len]; omega) hB)
    rw [← bs_w, hS] at CW
    have hst : pool ++ w s = Po.step pool s := by unfold Po.step; rw [if_pos (by omega)]
    have hat : Lib.index (Po.step pool s) (w s) = (pool.length : Int) := by
      have := index_new (q := []) hform h0 (by omega)
      rw [List.append_nil] at this
      rw [← hst]
      exact this
    rw [hst] at CW
    have hwf : (Lit.int .i64 (pool.length : Int)).wf = true := wf_64 (by omega)
    have hval := Lib.hid (plainElem_int (H := Unit) (P := Tryd.prog) (q := .i64) Tryd.underlying3 hwf)
    rw [hat]
    obtain ⟨np, hnp⟩ : ∃ k, (Po.step pool s).length = k := ⟨_, rfl⟩
    have hnp2 : np ≤ 3000000 := by rw [← hnp, ← hst, List.length_append, w_len]; omega
    obtain ⟨N0, hN0⟩ : ∃ k, pool.length = k := ⟨_, rfl⟩
    rw [hnp] at CL2 ⊢
    rw [hN0] at CL1 hval ⊢ hwf hpl
    rw [hS]
    clear hI hst hat hform h0 hS hnp hN0
    go_enter Tryd.func37, Tryd.ntmps37
    go_wp2_with fail
    refine (CS'.out X HK.out.bu HK.out.below.size).mono ?_
    rintro e w1 ⟨rfl, h1, h2, h3⟩
    have K1 := Lib.hid (HK.out.step h1 h2 h3)
    have hm1 := HM.out _ K1.out.below
    clear h1 h2 h3
    go_wp2_with fail
    refine (CI.out w1 hm1).mono ?_
    rintro e w2 ⟨rfl, rfl⟩
    go_wp2_with fail
    refine (CL1.out _ K1.out.bu).mono ?_
    rintro e w2 ⟨rfl, rfl⟩
    go_wp2_with fail
    refine (CW.out _ K1.out.bu K1.out.below.size).mono ?_
    rintro e w2 ⟨⟨u, rfl⟩, h1, h2, h3⟩
    have K2 := Lib.hid (K1.out.step h1 h2 h3)
    obtain ⟨u3, hu3, ou3, gu3⟩ := (K2.out.km.map _ (List.mem_cons_self ..)).update str_keyed Tryd.underlying66 hnm hfit.out hval.out
    have K3 := Lib.hid (K2.out.turn gu3 ou3)
    have hq := cells_at (K2.out.km.kp.at 0 rfl) 0
    clear h1 h2 h3 ou3 gu3
    go_wp2_with fail
    refine (CL2.out _ K3.out.bu).mono ?_
    rintro e w4 ⟨rfl, rfl⟩
    go_wp2_with fail
    go_ret
    refine ⟨?_, n + 1, _, by omega, K3.out, HD.out.put (k := keyS s) trivial _⟩
    show Ending.returned (.bool (decide ((np : Int) ≤ 255))) = _
    rw [show decide ((np : Int) ≤ 255) = decide (np ≤ 255) by rw [decide_eq_decide]; omega]
  · have hst : Po.step pool s = pool := by unfold Po.step; rw [if_neg (by omega)]
    rw [hst] at CL2 ⊢
    rw [hI]
    have hwf : (Lit.int .i64 I).wf = true := wf_64 (by omega)
    have hval := Lib.hid (plainElem_int (H := Unit) (P := Tryd.prog) (q := .i64) Tryd.underlying3 hwf)
    obtain ⟨N0, hN0⟩ : ∃ k, pool.length = k := ⟨_, rfl⟩
    rw [hN0] at CL1 CL2 hpl ⊢
    rw [hS]
    clear hI hst hform h0 hN0 hS
    go_enter Tryd.func37, Tryd.ntmps37
    go_wp2_with fail
    refine (CS'.out X HK.out.bu HK.out.below.size).mono ?_
    rintro e w1 ⟨rfl, h1, h2, h3⟩
    have K1 := Lib.hid (HK.out.step h1 h2 h3)
    have hm1 := HM.out _ K1.out.below
    clear h1 h2 h3
    go_wp2_with fail
    refine (CI.out w1 hm1).mono ?_
    rintro e w2 ⟨rfl, rfl⟩
    obtain ⟨u3, hu3, ou3, gu3⟩ := (K1.out.km.map _ (List.mem_cons_self ..)).update str_keyed Tryd.underlying66 hnm hfit.out hval.out
    have K3 := Lib.hid (K1.out.turn gu3 ou3)
    have hq := cells_at (K1.out.km.kp.at 0 rfl) 0
    clear ou3 gu3
    go_wp2_with fail
    refine (CL2.out _ K3.out.bu).mono ?_
    rintro e w4 ⟨rfl, rfl⟩
    go_wp2_with fail
    go_ret
    refine ⟨?_, n + 1, _, by omega, K3.out, HD.out.put (k := keyS s) trivial _⟩
    show Ending.returned (.bool (decide ((N0 : Int) ≤ 255))) = _
    rw [show decide ((N0 : Int) ≤ 255) = decide (N0 ≤ 255) by rw [decide_eq_decide]; omega]
end Go.Proofs.YtkfgonbopgdmgaaDoor.Px
