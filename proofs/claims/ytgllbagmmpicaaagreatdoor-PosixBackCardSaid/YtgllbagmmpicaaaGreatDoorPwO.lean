/- A TZ that is handed to a law, opened. -/
import Derived.Test.YtgllbagmmpicaaaGreatDoorPwE
import Derived.Test.YtgllbagmmpicaaaGreatDoorPxK
import Derived.Lib.SmallJoins
namespace Go.Proofs.YtgllbagmmpicaaaGreatDoor.Px
open Go.RowKit
open Civ
open Go.Joins Go.ChangeShapes Go.WideShapes Go.Deep

section
variable {H : Type} {enc : TypeId × Value → H} {w : World} {base : Nat} {spare : Nat → Bool} {held : Bool}
set_option maxRecDepth 100000 in
theorem int_cells {n t : Nat} {c : Value} {y : DataW H × List MemPlace} (ht : Tryz.prog.underlying t = some (.int .i64)) (hc : Tryz.prog.cellsOf t = 1) {l : List Value} (hl : l.take 1 = [c]) (h : DataW.trod enc Tryz.prog w base spare held n t (l.take (Tryz.prog.cellsOf t)) = some y) : ∃ x : Int, c = .int .i64 x ∧ (Lit.int IntKind.i64 x).wf = true := by
  rw [hc, hl] at h
  obtain ⟨k, e1, _, e3⟩ := DataW.trod_int ht h
  exact ⟨k, by simpa using e1, e3⟩
theorem str_cells {n t : Nat} {c : Value} {y : DataW H × List MemPlace} (ht : Tryz.prog.underlying t = some .string) (hc : Tryz.prog.cellsOf t = 1) {l : List Value} (hl : l.take 1 = [c]) (h : DataW.trod enc Tryz.prog w base spare held n t (l.take (Tryz.prog.cellsOf t)) = some y) : ∃ x : ByteArray, c = .string x ∧ x.size ≤ maxLen := by
  rw [hc, hl] at h
  obtain ⟨k, e1, _, e3⟩ := DataW.trod_string ht h
  exact ⟨k, by simpa using e1, e3⟩
set_option maxRecDepth 100000 in
theorem open_dt {n : Nat} {c0 c1 c2 c3 c4 : Value} {y : DataW H × List MemPlace} (h : DataW.trod enc Tryz.prog w base spare held n 23 [c0, c1, c2, c3, c4] = some y) : ∃ d : Dt, [c0, c1, c2, c3, c4] = [.int .i64 d.kind, .int .i64 d.day, .int .i64 d.month, .int .i64 d.week, .int .i64 d.sec] := by
  obtain ⟨xs, m, _, _, _, hn, hg⟩ := DataW.trod_struct Tryz.underlying23 h
  match xs, hn with
  | [y0, y1, y2, y3, y4], _ =>
    obtain ⟨x0, rfl, _⟩ := int_cells (t := 3) (c := c0) (l := [c0, c1, c2, c3, c4].drop 0) Tryz.underlying3 (by kernel_rfl) rfl (hg 0 _ rfl)
    obtain ⟨x1, rfl, _⟩ := int_cells (t := 3) (c := c1) (l := [_, c1, c2, c3, c4].drop 1) Tryz.underlying3 (by kernel_rfl) rfl (hg 1 _ rfl)
    obtain ⟨x2, rfl, _⟩ := int_cells (t := 3) (c := c2) (l := [_, _, c2, c3, c4].drop 2) Tryz.underlying3 (by kernel_rfl) rfl (hg 2 _ rfl)
    obtain ⟨x3, rfl, _⟩ := int_cells (t := 3) (c := c3) (l := [_, _, _, c3, c4].drop 3) Tryz.underlying3 (by kernel_rfl) rfl (hg 3 _ rfl)
    obtain ⟨x4, rfl, _⟩ := int_cells (t := 2) (c := c4) (l := [_, _, _, _, c4].drop 4) Tryz.underlying2 (by kernel_rfl) rfl (hg 4 _ rfl)
    exact ⟨⟨x0, x1, x2, x3, x4⟩, rfl⟩
set_option maxRecDepth 100000 in
theorem open_pos {r : Reach} {b0 : Nat} {v : Value} {d : DataW H} {p : List MemPlace} (hv : Value.okWide Tryz.prog w r b0 25 v) (h : DataW.Trod enc Tryz.prog w base spare held 25 v d p) :
    ∃ q : Pos, v = q.val ∧ q.std.size ≤ maxLen ∧ q.dst.size ≤ maxLen := by
  obtain ⟨cs, rfl, hsz⟩ := okWide_struct Tryz.underlying25 hv
  have hC : Tryz.prog.cellsOf 25 = 14 := by kernel_rfl
  obtain ⟨l⟩ := cs
  match l, hsz.trans hC with
  | [c0, c1, c2, c3, c4, c5, c6, c7, c8, c9, c10, c11, c12, c13], _ =>
    obtain ⟨fuel, hf⟩ := h
    obtain ⟨xs, n, _, _, _, hlen, hg⟩ := DataW.trod_struct Tryz.underlying25 hf
    match xs, hlen with
    | [y0, y1, y2, y3, y4, y5], _ =>
      obtain ⟨x0, rfl, z0⟩ := str_cells (t := 9) (c := c0) (l := [c0, c1, c2, c3, c4, c5, c6, c7, c8, c9, c10, c11, c12, c13].drop 0) Tryz.underlying9 (by kernel_rfl) rfl (hg 0 _ rfl)
      obtain ⟨x1, rfl, _⟩ := int_cells (t := 2) (c := c1) (l := [_, c1, c2, c3, c4, c5, c6, c7, c8, c9, c10, c11, c12, c13].drop 1) Tryz.underlying2 (by kernel_rfl) rfl (hg 1 _ rfl)
      obtain ⟨x2, rfl, z2⟩ := str_cells (t := 9) (c := c2) (l := [_, _, c2, c3, c4, c5, c6, c7, c8, c9, c10, c11, c12, c13].drop 2) Tryz.underlying9 (by kernel_rfl) rfl (hg 2 _ rfl)
      obtain ⟨x3, rfl, _⟩ := int_cells (t := 2) (c := c3) (l := [_, _, _, c3, c4, c5, c6, c7, c8, c9, c10, c11, c12, c13].drop 3) Tryz.underlying2 (by kernel_rfl) rfl (hg 3 _ rfl)
      have hd5 : Tryz.prog.cellsOf 23 = 5 := by kernel_rfl
      have g4 : DataW.trod enc Tryz.prog w base spare held n 23 [c4, c5, c6, c7, c8] = some y4 := by
        have : DataW.trod enc Tryz.prog w base spare held n 23 ([c4, c5, c6, c7, c8, c9, c10, c11, c12, c13].take (Tryz.prog.cellsOf 23)) = some y4 := hg 4 _ rfl
        rwa [hd5] at this
      have g5 : DataW.trod enc Tryz.prog w base spare held n 23 [c9, c10, c11, c12, c13] = some y5 := by
        have : DataW.trod enc Tryz.prog w base spare held n 23 ([c9, c10, c11, c12, c13].take (Tryz.prog.cellsOf 23)) = some y5 := hg 5 _ rfl
        rwa [hd5] at this
      obtain ⟨d1, e1⟩ := open_dt g4
      obtain ⟨d2, e2⟩ := open_dt g5
      simp only [List.cons.injEq] at e1 e2
      obtain ⟨rfl, rfl, rfl, rfl, rfl, _⟩ := e1
      obtain ⟨rfl, rfl, rfl, rfl, rfl, _⟩ := e2
      exact ⟨⟨x0, x1, x2, x3, d1, d2⟩, rfl, z0, z2⟩
end
end Go.Proofs.YtgllbagmmpicaaaGreatDoor.Px
