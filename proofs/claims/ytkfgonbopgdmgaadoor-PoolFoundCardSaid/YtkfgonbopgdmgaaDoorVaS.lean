/- The iterator of slices.Values at strings: what it yields. -/
import Derived.Test.YtkfgonbopgdmgaaDoorDfS
import Derived.Test.YtkfgonbopgdmgaaDoorNzR
namespace Go.Proofs.YtkfgonbopgdmgaaDoor.Px
open Go.RowKit Go.Shelf

/-- below a world's end nothing has changed -/
def KeptB (w A B : World) : Prop := ∀ k, k < w.heap.size → B.heap[k]? = A.heap[k]?
set_option maxHeartbeats 4000000 in
set_option maxRecDepth 100000 in
theorem values_steps (n : Nat) (hn : 1 ≤ n) (D : List (List UInt8)) (Bs : Nat) (v : Value) (w : World) (hBs : w.heap[Bs]? = some (.cells #[v] 22 (0, 0))) (hV : StrV w v D) (hD : D.length ≤ 1000000) :
    SeqSteps Fence.wide n Tryd.prog 65 #[.pointer (some ⟨Bs, 0, none⟩)] (fun x : List UInt8 => #[.string (bs x)]) (KeptB w) (fun A B => A = B) (fun xs => xs = D) (fun _ => True) D.length w := by
  intro l J Jx W hW hJ hJx hSJ hSJx hY h0
  have hlt : Bs < w.heap.size := (Array.getElem?_eq_some_iff.1 hBs).1
  obtain ⟨a, c, rfl, hc1, hc2⟩ := hV.slice
  have hall := fun h0 => hV.all h0
  obtain ⟨N, hN⟩ : ∃ n, D.length = n := ⟨_, rfl⟩
  rw [hN] at hall hY hD
  rw [hN] at hBs
  have HK0 := Lib.hid (show KeptB w w W from fun k hk => hW.block k hk)
  have hcell : ∀ X : World, KeptB w w X → X.cell? ⟨Bs, 0, none⟩ = some (.slice a N c) := fun X h => by simp only [World.cell?, h Bs hlt, hBs]; rfl
  have c0 := hcell W HK0.out
  have HA := Lib.hid hall
  have HY := Lib.hid hY
  have HN := Lib.hid hN
  have HSJ := Lib.hid hSJ
  have H0 := Lib.hid h0
  clear hBs hV hall hcell hY hSJ hSJx h0 hJ hJx hW hN hlt
  refine callsIn_of_wp Tryd.func65 rfl trivial ?_ rfl
  simp only [Tryd.ntmps65, List.size_toArray, List.length_cons, List.length_nil, Nat.reduceAdd, Nat.reduceSub, Array.replicate_succ, Array.replicate_zero, List.push_toArray, List.append_toArray, List.nil_append, List.cons_append]
  gi_wp2
  gi_loopw [4, 7] (fun _ v7 wr => ∃ i : Nat, i ≤ N ∧ v7 = .int .i64 (i : Int) ∧ J (D.take i) wr ∧ KeptB w w wr) (fun _ v7 _ => N - (intOf v7).toNat)
  case atStart => exact ⟨0, by omega, rfl, H0.out, HK0.out⟩
  case round =>
    obtain ⟨i, hi, rfl, hJi, hk⟩ := hrel
    have HK := Lib.hid hk
    have HJ := Lib.hid hJi
    clear hk hJi HK0 H0
    by_cases hlt : i < N
    · have j1 : (i : Int) < (N : Int) := by omega
      obtain ⟨b, o, c', e1, _, _, hb, hcell⟩ := HA.out (by omega)
      simp only [Value.slice.injEq] at e1
      obtain ⟨rfl, _, rfl⟩ := e1
      obtain ⟨x, hx⟩ : ∃ x, D[i]? = some x := ⟨_, List.getElem?_eq_getElem (by rw [HN.out]; exact hlt)⟩
      have k0 : wr.cell? ⟨b, o + i, none⟩ = some (.string (bs x)) := by
        rw [← hcell i x hx]
        simp only [World.cell?, HK.out b hb]
      have ht : D.take (i + 1) = D.take i ++ [x] := by rw [List.take_add_one, hx]; rfl
      have hib : i ≤ 1000000 := by omega
      obtain ⟨fn, tmps, assign, body, hy, hR⟩ := HY.out (D.take i) x wr HJ.out (by rw [List.length_take]; have := HN.out; omega)
      have HT := Lib.hid ht
      clear hcell hx hb ht
      gi_wp2
      refine hR.mono ?_
      rintro e W3 (⟨rfl, hJ3, hk3⟩ | ⟨rfl, hJx3⟩)
      · gi_wp2
        go_roundw
        case rel =>
          refine ⟨i + 1, by omega, by go_num, by rw [HT.out]; exact hJ3, fun k hk => (hk3 k hk).trans (HK.out k hk)⟩
        case measure => simp [intOf]; omega
      · gi_wp2
        first
          | (go_end0; exact ⟨⟨_, rfl⟩, .inr ⟨_, trivial, hJx3⟩⟩)
          | (refine bodyPost_ret (results_none rfl _ _ _) rfl ?_; exact ⟨⟨_, rfl⟩, .inr ⟨_, trivial, hJx3⟩⟩)
    · obtain rfl : i = N := by omega
      have hlst : D.take i = D := List.take_of_length_le (by rw [HN.out]; exact Nat.le_refl _)
      have hj := HJ.out
      rw [hlst] at hj
      gi_wp2
      go_end0
      exact ⟨⟨_, rfl⟩, .inl ⟨D, rfl, hj⟩⟩
end Go.Proofs.YtkfgonbopgdmgaaDoor.Px
