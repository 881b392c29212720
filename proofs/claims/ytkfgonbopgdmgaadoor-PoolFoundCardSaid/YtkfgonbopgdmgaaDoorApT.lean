/- slices.SortedStableFunc over slices.Values, at strings. -/
import Derived.Test.YtkfgonbopgdmgaaDoorApS
import Derived.Test.YtkfgonbopgdmgaaDoorSoG
namespace Go.Proofs.YtkfgonbopgdmgaaDoor.Px
open Go.RowKit Go.Shelf
open St Po

set_option maxHeartbeats 2000000 in
theorem insertion_nil (w : World) : Calls Tryd.prog 89 #[.slice none 0 0, .int .i64 0, .int .i64 0, cmpV] w fun e w' => e = .returned (.tuple #[]) ∧ w = w' := by
  unfold cmpV
  go_enter Tryd.func89, Tryd.ntmps89
  go_wp2_with fail
  go_loopw [8] (fun v8 wr => v8 = .int .i64 1 ∧ w = wr) (fun _ _ => 0)
  case atStart => exact ⟨rfl, rfl⟩
  case round =>
    obtain ⟨rfl, rfl⟩ := hrel
    go_wp2_with fail
    go_end0
    exact ⟨rfl, rfl⟩
set_option maxHeartbeats 2000000 in
theorem stable_nil (w : World) : Calls Tryd.prog 82 #[.slice none 0 0, .int .i64 0, cmpV] w fun e w' => e = .returned (.tuple #[]) ∧ w = w' := by
  have C := Lib.hid (fun w => insertion_nil w)
  unfold cmpV at C ⊢
  go_enter Tryd.func82, Tryd.ntmps82
  go_wp2_with fail
  go_loopw [7, 8] (fun v7 v8 wr => v7 = .int .i64 0 ∧ v8 = .int .i64 20 ∧ w = wr) (fun _ _ _ => 0)
  case atStart => exact ⟨rfl, rfl, rfl⟩
  case round =>
    obtain ⟨rfl, rfl, rfl⟩ := hrel
    go_wp2_with (go_at_call 89; refine (C.out _).mono ?_; rintro e w1 ⟨rfl, rfl⟩)
    go_loopw [6, 7, 8] (fun v6 v7 v8 wr => v6 = .int .i64 20 ∧ v7 = .int .i64 0 ∧ v8 = .int .i64 20 ∧ w = wr) (fun _ _ _ _ => 0)
    case atStart => exact ⟨rfl, rfl, rfl, rfl⟩
    case round =>
      obtain ⟨rfl, rfl, rfl, rfl⟩ := hrel
      go_wp2_with fail
      go_end0
      exact ⟨rfl, rfl⟩
set_option maxHeartbeats 2000000 in
theorem sortStable_any (D : List (List UInt8)) (tv : Value) (W w : World) (h : Kp [] [⟨tv, 9, 1, D.length, D.map sv⟩] W w) (hb' : D.length ≤ 1000000) :
    Calls Tryd.prog 64 #[tv, cmpV] w fun e w' => e = .returned (.tuple #[]) ∧ ∃ C, Stb rk D C ∧ Kp [] [⟨tv, 9, 1, C.length, C.map sv⟩] W w' := by
  have HK := Lib.hid h
  have HB := Lib.hid hb'
  rcases own_cells (h.row 0 rfl) with ⟨h0, hv⟩ | ⟨g, cap, hv, -, -, -, -⟩
  · dsimp only at h0 hv
    obtain rfl : D = [] := List.length_eq_zero_iff.1 h0
    subst hv
    have C := Lib.hid (stable_nil w)
    unfold cmpV at C ⊢
    clear h h0 hb'
    go_enter Tryd.func64, Tryd.ntmps64
    go_wp2_with (go_at_call 82; refine C.out.mono ?_; rintro e w1 ⟨rfl, rfl⟩)
    go_end0
    exact ⟨rfl, [], Stb.nil, HK.out⟩
  · dsimp only at hv
    subst hv
    obtain ⟨n, hn⟩ : ∃ n, D.length = n := ⟨_, rfl⟩
    have HN := Lib.hid hn
    have C := Lib.hid (stable_any D g n cap [] [] W w (by rw [← hn]; exact h) hn (by omega))
    unfold cmpV at C ⊢
    rw [hn]
    clear h hb' hn
    go_enter Tryd.func64, Tryd.ntmps64
    go_wp2_with (go_at_call 82; refine C.out.mono ?_; rintro e w1 ⟨rfl, E, hE, hk⟩)
    go_end0
    refine ⟨rfl, E, hE, ?_⟩
    rw [hE.len, HN.out]
    exact hk
set_option maxHeartbeats 2000000 in
/-- slices.SortedStableFunc(slices.Values(l), by length, longest first) -/
theorem sortedStable_any (D : List (List UInt8)) (Bs : Nat) (v : Value) (w : World) (hBs : w.heap[Bs]? = some (.cells #[v] 22 (0, 0))) (hV : StrV w v D) (hD : D.length ≤ 1000000) :
    Calls Tryd.prog 41 #[.func (.func 65) #[] #[.pointer (some ⟨Bs, 0, none⟩)], cmpV] w fun e w' => ∃ tv C, e = .returned tv ∧ Stb rk D C ∧ Kp [] [⟨tv, 9, 1, C.length, C.map sv⟩] w w' := by
  have C1 := Lib.hid (collect_any D Bs v w hBs hV hD)
  have C2 := Lib.hid (fun tv W w1 h => sortStable_any D tv W w1 h hD)
  unfold cmpV at C2 ⊢
  clear hBs hV hD
  go_enter Tryd.func41, Tryd.ntmps41
  go_wp2_with (first
    | (go_at_call 63; refine C1.out.mono ?_; rintro e w1 ⟨tv, rfl, hk⟩; obtain ⟨at', ct, rfl⟩ : ∃ a c, tv = .slice a D.length c := own_slice (hk.row 0 rfl); have HK := Lib.hid hk; clear hk)
    | (go_at_call 64; refine (C2.out _ w _ HK.out).mono ?_; rintro e w2 ⟨rfl, E, hE, hk⟩))
  go_ret
  exact ⟨_, E, rfl, hE, hk⟩
end Go.Proofs.YtkfgonbopgdmgaaDoor.Px
