/- Slices of integers in memory; tables by numbers (chapters 45 and 40) that are handed to a law, opened. -/
import Derived.Test.YtlaplgaccjmbhaaGreatDoorSG14
import Derived.Test.YtlaplgaccjmbhaaGreatDoorRG14x
import Derived.Test.YtlaplgaccjmbhaaGreatDoorRJ1
import Derived.Test.YtlaplgaccjmbhaaGreatDoorRJ0
import Derived.Test.YtlaplgaccjmbhaaGreatDoorRJ3
namespace Go.Proofs.YtlaplgaccjmbhaaGreatDoor.Px
open Go.RowKit
open Civ Tb
open Go.Joins Go.ChangeShapes Go.WideShapes Go.Deep
section
variable {H : Type} {enc : TypeId × Value → H} {w : World} {base : Nat} {spare : Nat → Bool} {held : Bool}
/-- the value of a draft of chapter 45 -/
def d45val (d : D45) (gv kv : Value) : Value := .agg (d.foot.cells ++ #[.int .i32 d.first, gv, kv])
/-- .. in memory -/
structure D45V (W : World) (gv kv : Value) (d : D45) : Prop where
  gaps : IsV W .u16 gv d.gaps
  kinds : IsV W .u8 kv d.kinds
theorem D45V.keep {W W' : World} {gv kv : Value} {d : D45} (h : D45V W gv kv d) (hB : Below W.heap.size W W') : D45V W' gv kv d := ⟨h.gaps.keep hB, h.kinds.keep hB⟩
set_option maxRecDepth 100000 in
theorem draft_cells {n : Nat} {c0 c1 c2 c3 c4 c5 c6 c7 c8 c9 c10 : Value} {y : DataW H × List MemPlace} (hf : DataW.trod enc Tryz.prog w base spare held n 37 [c0, c1, c2, c3, c4, c5, c6, c7, c8, c9, c10] = some y) :
    ∃ q : Drf, #[c0, c1, c2, c3, c4, c5, c6, c7, c8, c9, c10] = q.cells ∧ q.In := by
  obtain ⟨xs, n, _, _, _, hlen, hg⟩ := DataW.trod_struct Tryz.underlying37 hf
  have h2 : Tryz.prog.cellsOf 35 = 2 := by kernel_rfl
  have hb : Tryz.prog.cellsOf 4 = 1 := by kernel_rfl
  match xs, hlen with
  | [y0, y1, y2, y3, y4, y5], _ =>
    have g0 : DataW.trod enc Tryz.prog w base spare held n 35 ([c0, c1, c2, c3, c4, c5, c6, c7, c8, c9, c10].take (Tryz.prog.cellsOf 35)) = some y0 := hg 0 _ rfl
    have g1 : DataW.trod enc Tryz.prog w base spare held n 35 ([c2, c3, c4, c5, c6, c7, c8, c9, c10].take (Tryz.prog.cellsOf 35)) = some y1 := hg 1 _ rfl
    have g2 : DataW.trod enc Tryz.prog w base spare held n 35 ([c4, c5, c6, c7, c8, c9, c10].take (Tryz.prog.cellsOf 35)) = some y2 := hg 2 _ rfl
    have g3 : DataW.trod enc Tryz.prog w base spare held n 35 ([c6, c7, c8, c9, c10].take (Tryz.prog.cellsOf 35)) = some y3 := hg 3 _ rfl
    have g4 : DataW.trod enc Tryz.prog w base spare held n 35 ([c8, c9, c10].take (Tryz.prog.cellsOf 35)) = some y4 := hg 4 _ rfl
    have g5 : DataW.trod enc Tryz.prog w base spare held n 4 ([c10].take (Tryz.prog.cellsOf 4)) = some y5 := hg 5 _ rfl
    rw [h2] at g0 g1 g2 g3 g4
    rw [hb] at g5
    obtain ⟨n0, n1, rfl, rfl, a0, a1⟩ := open_two (c0 := c0) (c1 := c1) g0
    obtain ⟨o0, o1, rfl, rfl, a2, a3⟩ := open_two (c0 := c2) (c1 := c3) g1
    obtain ⟨k0, k1, rfl, rfl, a4, a5⟩ := open_two (c0 := c4) (c1 := c5) g2
    obtain ⟨d0, d1, rfl, rfl, a6, a7⟩ := open_two (c0 := c6) (c1 := c7) g3
    obtain ⟨s0, s1, rfl, rfl, a8, a9⟩ := open_two (c0 := c8) (c1 := c9) g4
    obtain ⟨b, e, _⟩ := DataW.trod_bool Tryz.underlying4 g5
    have e2 : c10 = .bool b := by simpa using e
    subst e2
    exact ⟨⟨n0, n1, o0, o1, k0, k1, d0, d1, s0, s1, b⟩, rfl, ⟨a0, a1, a2, a3, a4, a5, a6, a7, a8, a9⟩⟩
set_option maxRecDepth 100000 in
theorem open_d45 {r : Reach} {b0 : Nat} {v : Value} {d : DataW H} {p : List MemPlace} (hv : Value.okWide Tryz.prog w r b0 41 v) (h : DataW.Trod enc Tryz.prog w base spare held 41 v d p) :
    ∃ (q : D45) (gv kv : Value), v = d45val q gv kv ∧ D45V w gv kv q ∧ q.In := by
  obtain ⟨cs, rfl, hsz⟩ := okWide_struct Tryz.underlying41 hv
  have hC : Tryz.prog.cellsOf 41 = 14 := by kernel_rfl
  obtain ⟨l⟩ := cs
  match l, hsz.trans hC with
  | [c0, c1, c2, c3, c4, c5, c6, c7, c8, c9, c10, c11, c12, c13], _ =>
    obtain ⟨fuel, hf⟩ := h
    obtain ⟨xs, n, _, _, _, hlen, hg⟩ := DataW.trod_struct Tryz.underlying41 hf
    have h11 : Tryz.prog.cellsOf 37 = 11 := by kernel_rfl
    have hi : Tryz.prog.cellsOf 21 = 1 := by kernel_rfl
    have hs16 : Tryz.prog.cellsOf 38 = 1 := by kernel_rfl
    have hs8 : Tryz.prog.cellsOf 39 = 1 := by kernel_rfl
    match xs, hlen with
    | [y0, y1, y2, y3], _ =>
      have g0 : DataW.trod enc Tryz.prog w base spare held n 37 ([c0, c1, c2, c3, c4, c5, c6, c7, c8, c9, c10, c11, c12, c13].take (Tryz.prog.cellsOf 37)) = some y0 := hg 0 _ rfl
      have g1 : DataW.trod enc Tryz.prog w base spare held n 21 ([c11, c12, c13].take (Tryz.prog.cellsOf 21)) = some y1 := hg 1 _ rfl
      have g2 : DataW.trod enc Tryz.prog w base spare held n 38 ([c12, c13].take (Tryz.prog.cellsOf 38)) = some y2 := hg 2 _ rfl
      have g3 : DataW.trod enc Tryz.prog w base spare held n 39 ([c13].take (Tryz.prog.cellsOf 39)) = some y3 := hg 3 _ rfl
      rw [h11] at g0
      rw [hi] at g1
      rw [hs16] at g2
      rw [hs8] at g3
      obtain ⟨q, e0, hq⟩ := draft_cells (c0 := c0) (c1 := c1) (c2 := c2) (c3 := c3) (c4 := c4) (c5 := c5) (c6 := c6) (c7 := c7) (c8 := c8) (c9 := c9) (c10 := c10) g0
      obtain ⟨x1, e1, _, z1⟩ := DataW.trod_int Tryz.underlying21 g1
      have e1' : c11 = .int .i32 x1 := by simpa using e1
      subst e1'
      obtain ⟨G, hG, fG⟩ := open_ints (v := c12) Tryz.underlying38 Tryz.underlying77 (by kernel_rfl) g2
      obtain ⟨K, hK, fK⟩ := open_ints (v := c13) Tryz.underlying39 Tryz.underlying5 (by kernel_rfl) g3
      refine ⟨⟨q, x1, G, K⟩, c12, c13, ?_, ⟨hG, hK⟩, ⟨hq, wf_i32 z1, fun x hx => wf_u16 (fG x hx), fun x hx => wf_u8 (fK x hx)⟩⟩
      unfold d45val
      rw [← e0]
      rfl
end
end Go.Proofs.YtlaplgaccjmbhaaGreatDoor.Px

