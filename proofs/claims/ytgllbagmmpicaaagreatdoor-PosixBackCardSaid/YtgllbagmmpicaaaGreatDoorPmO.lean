/- A TZ by numbers that is handed to a law, opened. -/
import Derived.Test.YtgllbagmmpicaaaGreatDoorPwO
import Derived.Test.YtgllbagmmpicaaaGreatDoorPmP
import Derived.OpenShut
namespace Go.Proofs.YtgllbagmmpicaaaGreatDoor.Px
open Go.RowKit
open Civ
open Go.Joins Go.ChangeShapes Go.WideShapes Go.Deep

section
variable {H : Type} {enc : TypeId × Value → H} {w : World} {base : Nat} {spare : Nat → Bool} {held : Bool}
theorem u8_cells {n : Nat} {c : Value} {y : DataW H × List MemPlace} (h : DataW.trod enc Tryz.prog w base spare held n 5 [c] = some y) : ∃ x : Int, c = .int .u8 x ∧ U8 x := by
  obtain ⟨k, e1, _, e3⟩ := DataW.trod_int Tryz.underlying5 h
  refine ⟨k, by simpa using e1, ?_⟩
  unfold Lit.wf at e3
  rw [Bool.and_eq_true, decide_eq_true_eq, decide_eq_true_eq] at e3
  exact e3
set_option maxRecDepth 100000 in
theorem open_two {n : Nat} {c0 c1 : Value} {y : DataW H × List MemPlace} (h : DataW.trod enc Tryz.prog w base spare held n 39 [c0, c1] = some y) : ∃ a b : Int, c0 = .int .u8 a ∧ c1 = .int .u8 b ∧ U8 a ∧ U8 b := by
  obtain ⟨xs, m, _, hx, hlen, hn, hel⟩ := DataW.trod_array (n := 2) (e := 5) (by kernel_rfl) h
  have hc : Tryz.prog.cellsOf 5 = 1 := by kernel_rfl
  rw [hc] at hel
  match xs, hn with
  | [y0, y1], _ =>
    obtain ⟨a, ha, ha2⟩ := u8_cells (c := c0) (y := y0) (hel 0 (by decide))
    obtain ⟨b, hb, hb2⟩ := u8_cells (c := c1) (y := y1) (hel 1 (by decide))
    exact ⟨a, b, ha, hb, ha2, hb2⟩
set_option maxRecDepth 100000 in
theorem open_draft {r : Reach} {b0 : Nat} {v : Value} {d : DataW H} {p : List MemPlace} (hv : Value.okWide Tryz.prog w r b0 41 v) (h : DataW.Trod enc Tryz.prog w base spare held 41 v d p) :
    ∃ q : Drf, v = q.val ∧ q.In := by
  obtain ⟨cs, rfl, hsz⟩ := okWide_struct Tryz.underlying41 hv
  have hC : Tryz.prog.cellsOf 41 = 11 := by kernel_rfl
  obtain ⟨l⟩ := cs
  match l, hsz.trans hC with
  | [c0, c1, c2, c3, c4, c5, c6, c7, c8, c9, c10], _ =>
    obtain ⟨fuel, hf⟩ := h
    obtain ⟨xs, n, _, _, _, hlen, hg⟩ := DataW.trod_struct Tryz.underlying41 hf
    have h2 : Tryz.prog.cellsOf 39 = 2 := by kernel_rfl
    have hb : Tryz.prog.cellsOf 4 = 1 := by kernel_rfl
    match xs, hlen with
    | [y0, y1, y2, y3, y4, y5], _ =>
      have g0 : DataW.trod enc Tryz.prog w base spare held n 39 ([c0, c1, c2, c3, c4, c5, c6, c7, c8, c9, c10].take (Tryz.prog.cellsOf 39)) = some y0 := hg 0 _ rfl
      have g1 : DataW.trod enc Tryz.prog w base spare held n 39 ([c2, c3, c4, c5, c6, c7, c8, c9, c10].take (Tryz.prog.cellsOf 39)) = some y1 := hg 1 _ rfl
      have g2 : DataW.trod enc Tryz.prog w base spare held n 39 ([c4, c5, c6, c7, c8, c9, c10].take (Tryz.prog.cellsOf 39)) = some y2 := hg 2 _ rfl
      have g3 : DataW.trod enc Tryz.prog w base spare held n 39 ([c6, c7, c8, c9, c10].take (Tryz.prog.cellsOf 39)) = some y3 := hg 3 _ rfl
      have g4 : DataW.trod enc Tryz.prog w base spare held n 39 ([c8, c9, c10].take (Tryz.prog.cellsOf 39)) = some y4 := hg 4 _ rfl
      have g5 : DataW.trod enc Tryz.prog w base spare held n 4 ([c10].take (Tryz.prog.cellsOf 4)) = some y5 := hg 5 _ rfl
      rw [h2] at g0 g1 g2 g3 g4
      rw [hb] at g5
      obtain ⟨n0, n1, rfl, rfl, a0, a1⟩ := open_two (c0 := c0) (c1 := c1) g0
      obtain ⟨o0, o1, rfl, rfl, a2, a3⟩ := open_two (c0 := c2) (c1 := c3) g1
      obtain ⟨k0, k1, rfl, rfl, a4, a5⟩ := open_two (c0 := c4) (c1 := c5) g2
      obtain ⟨d0, d1, rfl, rfl, a6, a7⟩ := open_two (c0 := c6) (c1 := c7) g3
      obtain ⟨s0, s1, rfl, rfl, a8, a9⟩ := open_two (c0 := c8) (c1 := c9) g4
      obtain ⟨b, e, _⟩ := DataW.trod_bool Tryz.underlying4 g5
      have e2 : c10 = .bool b := by simpa using e
      subst e2
      exact ⟨⟨n0, n1, o0, o1, k0, k1, d0, d1, s0, s1, b⟩, rfl, ⟨a0, a1, a2, a3, a4, a5, a6, a7, a8, a9⟩⟩
end
end Go.Proofs.YtgllbagmmpicaaaGreatDoor.Px
