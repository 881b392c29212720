/- What few answers (chapter 35). -/
import Derived.Test.YtnffecoohkanhaaDoorYFtA
namespace Go.Proofs.YtnffecoohkanhaaDoor.Px
open Go.RowKit
open Go.Maps (Keyed)
open Lk

/-- what few answers -/
def FewQ (nr nz nl ns : Nat) (Q : List Zo) (W : World) (e : Ending) (w' : World) : Prop := ∃ r, e = .returned (.bool r) ∧ (r = true → nr ≤ 20 ∧ nz ≤ 12 ∧ nl ≤ 12 ∧ ns ≤ 12 ∧ ∀ o ∈ Q, o.2.2.1 ≤ 6) ∧ Below W.heap.size W w'
theorem fewQ_mk {nr nz nl ns : Nat} {Q : List Zo} {W w' : World} {r : Bool} (h : r = true → nr ≤ 20 ∧ nz ≤ 12 ∧ nl ≤ 12 ∧ ns ≤ 12 ∧ ∀ o ∈ Q, o.2.2.1 ≤ 6) (hB : Below W.heap.size W w') : FewQ nr nz nl ns Q W (.returned (.bool r)) w' := ⟨r, rfl, h, hB⟩
set_option maxHeartbeats 4000000 in
set_option maxRecDepth 100000 in
theorem few35_any (rv zv lv sv : Value) (nr ns : Nat) (rs ss : List Value) (Q : List Zo) (Ls : List (List UInt8 × List UInt8)) (W : World) (hr : SlV W rv 11 nr rs) (hz : ZoV W zv Q) (hl : LkV W lv Ls) (hs : SlV W sv 1 ns ss) :
    Calls Tryd.prog 8 #[.agg #[rv, zv, lv, sv]] W (FewQ nr Q.length Ls.length ns Q W) := by
  obtain ⟨ra, rc, rfl, _, _⟩ := hr.slA
  obtain ⟨za, zc, rfl, hz1, hz2⟩ := SlV.slA hz
  obtain ⟨la, lc, rfl, _, _⟩ := SlV.slA hl
  obtain ⟨sa, sc, rfl, _, _⟩ := hs.slA
  have hallz := fun h0 => SlV.allA hz h0
  obtain ⟨nz, hnz⟩ : ∃ n, Q.length = n := ⟨_, rfl⟩
  obtain ⟨nl, hnl⟩ : ∃ n, Ls.length = n := ⟨_, rfl⟩
  rw [hnz] at hallz hz1 ⊢
  rw [hnl]
  unfold maxLen at hz2
  have HAz := Lib.hid hallz
  have HNz := Lib.hid hnz
  have K0 := Lib.hid ((Kp.start W).allocAt W.heap.size rfl (.cells #[.slice ra nr rc, .slice za nz zc, .slice la nl lc, .slice sa ns sc] 27))
  obtain ⟨W1, hW1⟩ : ∃ X, W.alloc (.cells #[.slice ra nr rc, .slice za nz zc, .slice la nl lc, .slice sa ns sc] 27) = X := ⟨_, rfl⟩
  rw [hW1] at K0
  obtain ⟨x0, x1, x2, x3⟩ := row4 (K0.out.at 0 rfl)
  clear hr hz hl hs hallz hnz hnl
  go_enter Tryd.func8, Tryd.ntmps8
  go_upto_region 1 with fail
  clear hW1
  go_wp2_with fail
  clear x0 x1 x2 x3
  go_loopw [4, 8] (fun _ v8 wr => ∃ i : Nat, i ≤ nz ∧ v8 = .int .i64 (i : Int) ∧ (∀ o ∈ Q.take i, o.2.2.1 ≤ 6) ∧ Kp [(W.heap.size, .cells #[.slice ra nr rc, .slice za nz zc, .slice la nl lc, .slice sa ns sc] 27 (0, 0))] [] W wr) (fun _ v8 _ => nz - (intOf v8).toNat)
  case atStart => exact ⟨0, by omega, rfl, (fun o ho => by simp at ho), K0.out⟩
  case round =>
    obtain ⟨i, hi', rfl, hs6, hk⟩ := hrel
    have HK := Lib.hid hk
    have HS6 := Lib.hid hs6
    clear hk hs6 K0
    by_cases hlt : i < nz
    · obtain ⟨b, o, c1, e1, _, _, hb, hcell⟩ := HAz.out (by omega)
      simp only [Value.slice.injEq] at e1
      obtain ⟨rfl, _, rfl⟩ := e1
      obtain ⟨q, hq⟩ : ∃ q, Q[i]? = some q := ⟨_, List.getElem?_eq_getElem (by rw [HNz.out]; exact hlt)⟩
      have k0 := (HK.out.below.cell (p := ⟨b, o + i * 2, none⟩) hb).trans (hcell (i * 2) _ (zo_at Q hq).1)
      have k1 := (HK.out.below.cell (p := ⟨b, o + (i * 2 + 1), none⟩) hb).trans (hcell (i * 2 + 1) _ (zo_at Q hq).2)
      rw [← Nat.add_assoc] at k1
      have HQt := Lib.hid (show Q.take (i + 1) = Q.take i ++ [q] by rw [List.take_add_one, hq]; rfl)
      obtain ⟨qn, qa, qm, qc⟩ := q
      dsimp only at k0 k1
      obtain ⟨s, hs⟩ : ∃ s, bs qn = s := ⟨_, rfl⟩
      rw [hs] at k0
      have hbw : b < wr.heap.size := Nat.lt_of_lt_of_le hb HK.out.below.size
      have KE := Lib.hid (HK.out.allocAt wr.heap.size rfl (.cells #[.string s, .slice qa qm qc] 40))
      clear hs hq hcell
      by_cases h6 : (6 : Int) < (qm : Int)
      · go_wp2_with fail
        exact bodyPost_ret (v := .bool false) (by simp [results, Tryd.results8, go_sem]) rfl (fewQ_mk (fun h => by cases h) KE.out.below)
      · go_wp2_with fail
        go_roundw
        case rel =>
          refine ⟨i + 1, by omega, by go_num, fun o ho => ?_, KE.out.drop⟩
          rw [HQt.out] at ho
          rcases List.mem_append.1 ho with ho | ho
          · exact HS6.out o ho
          · rw [List.mem_singleton.1 ho]
            show qm ≤ 6
            omega
        case measure => simp [intOf]; omega
    · obtain rfl : nz = i := by omega
      have HS7 := Lib.hid (show ∀ o ∈ Q, o.2.2.1 ≤ 6 from fun o ho => HS6.out o (by rw [List.take_of_length_le (by rw [HNz.out]; exact Nat.le_refl _)]; exact ho))
      obtain ⟨x0, x1, x2, x3⟩ := row4 (HK.out.at 0 rfl)
      by_cases g1 : (nr : Int) ≤ 20
      · by_cases g2 : (nz : Int) ≤ 12
        · by_cases g3 : (nl : Int) ≤ 12
          · by_cases g4 : (ns : Int) ≤ 12
            · go_wp2_with fail
              exact bodyPost_ret (v := .bool true) (by simp [results, Tryd.results8, go_sem]) rfl (fewQ_mk (fun _ => ⟨by omega, by omega, by omega, by omega, HS7.out⟩) HK.out.below)
            · go_wp2_with fail
              exact bodyPost_ret (v := .bool false) (by simp [results, Tryd.results8, go_sem]) rfl (fewQ_mk (fun h => by cases h) HK.out.below)
          · go_wp2_with fail
            exact bodyPost_ret (v := .bool false) (by simp [results, Tryd.results8, go_sem]) rfl (fewQ_mk (fun h => by cases h) HK.out.below)
        · go_wp2_with fail
          exact bodyPost_ret (v := .bool false) (by simp [results, Tryd.results8, go_sem]) rfl (fewQ_mk (fun h => by cases h) HK.out.below)
      · go_wp2_with fail
        exact bodyPost_ret (v := .bool false) (by simp [results, Tryd.results8, go_sem]) rfl (fewQ_mk (fun h => by cases h) HK.out.below)
end Go.Proofs.YtnffecoohkanhaaDoor.Px
