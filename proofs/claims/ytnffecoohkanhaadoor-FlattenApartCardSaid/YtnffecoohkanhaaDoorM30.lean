/- The drafts of sources with eras (chapter 23): what a draft is in memory. Drafts of chapter 23 that are handed to a law, opened. -/
import Derived.Test.YtnffecoohkanhaaDoorM28
import Derived.Test.YtnffecoohkanhaaDoorM29
import Derived.Test.YtnffecoohkanhaaDoorYFuO
import Derived.Test.YtnffecoohkanhaaDoorM12
namespace Go.Proofs.YtnffecoohkanhaaDoor.Px
open Go.RowKit
open Lk

/-- an era by numbers -/
structure Er8 where
  kd : Nat
  st : Nat
  fm : Nat
  yr : Nat
  dy : Nat
  bz : Nat
  of : Int
  at' : Int
def Er8.ok (x : Er8) : Prop := x.kd < 256 ∧ x.st < 256 ∧ x.fm < 256 ∧ x.yr < 256 ∧ x.dy < 256 ∧ x.bz < 256 ∧ (-128 ≤ x.of ∧ x.of ≤ 127) ∧ (-128 ≤ x.at' ∧ x.at' ≤ 127)
def er8C (x : Er8) : List Value := [.int .u8 (x.kd : Int), .int .u8 (x.st : Int), .int .u8 (x.fm : Int), .int .u8 (x.yr : Int), .int .u8 (x.dy : Int), .int .u8 (x.bz : Int), .int .i8 x.of, .int .i8 x.at']
/-- a slice of eras by numbers -/
def ErsV (W : World) (v : Value) : Prop := ∃ E : List Er8, SlV W v 8 E.length (E.flatMap er8C) ∧ ∀ x ∈ E, x.ok
theorem ErsV.keep {W W' : World} {v : Value} (h : ErsV W v) (hB : Below W.heap.size W W') : ErsV W' v := by
  obtain ⟨E, h1, h2⟩ := h
  exact ⟨E, h1.keep hB, h2⟩
/-- a draft of a source in memory: slices of sets, of zones, of links -/
structure D23 (W : World) (sv zv lv : Value) (vs zs : List Value) (Ln : List Nat) : Prop where
  s : SlV W sv 1 vs.length vs
  sets : ∀ v ∈ vs, ∃ L, D17 W v L
  z : SlV W zv 1 zs.length zs
  zones : ∀ v ∈ zs, ErsV W v
  l : SlV W lv 1 Ln.length (Ln.map u8v)
  links : ∀ b ∈ Ln, b < 256
theorem D23.keep {W W' : World} {sv zv lv : Value} {vs zs : List Value} {Ln : List Nat} (h : D23 W sv zv lv vs zs Ln) (hB : Below W.heap.size W W') : D23 W' sv zv lv vs zs Ln :=
  ⟨h.s.keep hB, fun v hv => by obtain ⟨L, hL⟩ := h.sets v hv; exact ⟨L, hL.keep hB⟩, h.z.keep hB, fun v hv => (h.zones v hv).keep hB, h.l.keep hB, h.links⟩
/-- a set that is not there is the draft of no numbers -/
theorem D17.nil (W : World) : D17 W (.slice none 0 0) [] := ⟨SlV.nil W 1, fun b h => by cases h⟩
theorem er8_at (D : List Er8) {i : Nat} {x : Er8} (h : D[i]? = some x) (j : Nat) (hj : j < 8) : (D.flatMap er8C)[i * 8 + j]? = some ((er8C x).getD j undef) := by
  rw [flat_at er8C 8 (fun _ => rfl) D i j hj, h]
  show (er8C x)[j]? = _
  rw [List.getD, List.getElem?_eq_getElem (show j < (er8C x).length from hj)]
  rfl
end Go.Proofs.YtnffecoohkanhaaDoor.Px
namespace Go.Proofs.YtnffecoohkanhaaDoor.Px
open Go.RowKit
open Go.Joins Go.ChangeShapes Go.WideShapes Go.Deep
open Lk

theorem wf_i8 {x : Int} (h : (Lit.int IntKind.i8 x).wf = true) : -128 ≤ x ∧ x ≤ 127 := by
  unfold Lit.wf at h
  rw [Bool.and_eq_true, decide_eq_true_eq, decide_eq_true_eq] at h
  exact h
theorem flat_one {α : Type} (f : α → Value) : ∀ D : List α, D.flatMap (fun x => [f x]) = D.map f
  | [] => rfl
  | a :: r => by rw [List.flatMap_cons, flat_one f r]; rfl
section
variable {H : Type} {enc : TypeId × Value → H} {w : World} {base : Nat} {spare : Nat → Bool} {held : Bool}
theorem open_u8s {t : TypeId} (ht : Tryd.prog.underlying t = some (.slice 5)) {n : Nat} {v : Value} {y : DataW H × List MemPlace} (h : DataW.trod enc Tryd.prog w base spare held n t [v] = some y) : ∃ L : List Nat, SlV w v 1 L.length (L.map u8v) ∧ ∀ b ∈ L, b < 256 := by
  obtain ⟨D, hD, hR⟩ := open_flat (sz := 1) (fun x : Nat => [u8v x]) Nat.one_pos (fun _ => rfl) (R := fun b => b < 256) ht (by kernel_rfl) (fun n l y hl h => by
    match l, hl with
    | [c], _ =>
      obtain ⟨x, e, _, hw⟩ := DataW.trod_int Tryd.underlying5 h
      have hb := wf_u8 hw
      refine ⟨x.toNat, ?_, by omega⟩
      rw [e]
      show [Value.int .u8 x] = [Value.int .u8 ((x.toNat : Nat) : Int)]
      rw [Int.toNat_of_nonneg hb.1]) h
  rw [flat_one] at hD
  exact ⟨D, hD, hR⟩
theorem f_u8 {n : Nat} {c : Value} {y : DataW H × List MemPlace} {l : List Value} (hl : l.take 1 = [c]) (h : DataW.trod enc Tryd.prog w base spare held n 5 (l.take (Tryd.prog.cellsOf 5)) = some y) : ∃ x : Nat, c = .int .u8 (x : Int) ∧ x < 256 := by
  rw [show Tryd.prog.cellsOf 5 = 1 by kernel_rfl, hl] at h
  obtain ⟨k, e1, _, hw⟩ := DataW.trod_int Tryd.underlying5 h
  have hb := wf_u8 hw
  refine ⟨k.toNat, ?_, by omega⟩
  rw [Int.toNat_of_nonneg hb.1]
  simpa using e1
theorem f_i8 {n : Nat} {c : Value} {y : DataW H × List MemPlace} {l : List Value} (hl : l.take 1 = [c]) (h : DataW.trod enc Tryd.prog w base spare held n 94 (l.take (Tryd.prog.cellsOf 94)) = some y) : ∃ x : Int, c = .int .i8 x ∧ -128 ≤ x ∧ x ≤ 127 := by
  rw [show Tryd.prog.cellsOf 94 = 1 by kernel_rfl, hl] at h
  obtain ⟨k, e1, _, hw⟩ := DataW.trod_int Tryd.underlying94 h
  exact ⟨k, by simpa using e1, wf_i8 hw⟩
set_option maxRecDepth 100000 in
theorem open_er8 {n : Nat} {l : List Value} {y : DataW H × List MemPlace} (hl : l.length = 8) (h : DataW.trod enc Tryd.prog w base spare held n 96 l = some y) : ∃ d : Er8, l = er8C d ∧ d.ok := by
  match l, hl with
  | [c0, c1, c2, c3, c4, c5, c6, c7], _ =>
    obtain ⟨xs, m, _, _, _, hn, hg⟩ := DataW.trod_struct Tryd.underlying96 h
    match xs, hn with
    | [y0, y1, y2, y3, y4, y5, y6, y7], _ =>
      obtain ⟨x0, e0, b0⟩ := f_u8 (c := c0) (l := [c0, c1, c2, c3, c4, c5, c6, c7].drop 0) rfl (hg 0 _ rfl)
      obtain ⟨x1, e1, b1⟩ := f_u8 (c := c1) (l := [c0, c1, c2, c3, c4, c5, c6, c7].drop 1) rfl (hg 1 _ rfl)
      obtain ⟨x2, e2, b2⟩ := f_u8 (c := c2) (l := [c0, c1, c2, c3, c4, c5, c6, c7].drop 2) rfl (hg 2 _ rfl)
      obtain ⟨x3, e3, b3⟩ := f_u8 (c := c3) (l := [c0, c1, c2, c3, c4, c5, c6, c7].drop 3) rfl (hg 3 _ rfl)
      obtain ⟨x4, e4, b4⟩ := f_u8 (c := c4) (l := [c0, c1, c2, c3, c4, c5, c6, c7].drop 4) rfl (hg 4 _ rfl)
      obtain ⟨x5, e5, b5⟩ := f_u8 (c := c5) (l := [c0, c1, c2, c3, c4, c5, c6, c7].drop 5) rfl (hg 5 _ rfl)
      obtain ⟨x6, e6, b6⟩ := f_i8 (c := c6) (l := [c0, c1, c2, c3, c4, c5, c6, c7].drop 6) rfl (hg 6 _ rfl)
      obtain ⟨x7, e7, b7⟩ := f_i8 (c := c7) (l := [c0, c1, c2, c3, c4, c5, c6, c7].drop 7) rfl (hg 7 _ rfl)
      subst e0 e1 e2 e3 e4 e5 e6 e7
      exact ⟨⟨x0, x1, x2, x3, x4, x5, x6, x7⟩, rfl, b0, b1, b2, b3, b4, b5, b6, b7⟩
set_option maxRecDepth 100000 in
theorem open_d23 {r : Reach} {b0 : Nat} {v : Value} {d : DataW H} {p : List MemPlace} (hv : Value.okWide Tryd.prog w r b0 54 v) (h : DataW.Trod enc Tryd.prog w base spare held 54 v d p) :
    ∃ (sv zv lv : Value) (vs zs : List Value) (Ln : List Nat), v = .agg #[sv, zv, lv] ∧ D23 w sv zv lv vs zs Ln := by
  obtain ⟨v0, v1, v2, y0, y1, y2, n, rfl, _, _, h0, h1, h2⟩ := open_agg3 Tryd.underlying54 (by kernel_rfl) (by kernel_rfl) hv h
  obtain ⟨vs, s1, s2⟩ := open_flat (sz := 1) (fun x : Value => [x]) Nat.one_pos (fun _ => rfl) (R := fun v => ∃ L, D17 w v L) Tryd.underlying50 (by kernel_rfl) (fun n l y hl h => by
    match l, hl with
    | [c], _ =>
      obtain ⟨L, l1, l2⟩ := open_u8s (t := 90) Tryd.underlying90 h
      exact ⟨c, rfl, L, l1, l2⟩) h0
  obtain ⟨zs, z1, z2⟩ := open_flat (sz := 1) (fun x : Value => [x]) Nat.one_pos (fun _ => rfl) (R := fun v => ErsV w v) Tryd.underlying51 (by kernel_rfl) (fun n l y hl h => by
    match l, hl with
    | [c], _ =>
      obtain ⟨E, e1, e2⟩ := open_flat er8C (by omega) (fun _ => rfl) (R := Er8.ok) Tryd.underlying93 (by kernel_rfl) (fun n l y hl h => open_er8 hl h) h
      exact ⟨c, rfl, E, e1, e2⟩) h1
  obtain ⟨Ln, l1, l2⟩ := open_u8s (t := 52) Tryd.underlying52 h2
  rw [flat_one (fun x : Value => x), List.map_id'] at s1 z1
  exact ⟨v0, v1, v2, vs, zs, Ln, rfl, s1, s2, z1, z2, l1, l2⟩
end
end Go.Proofs.YtnffecoohkanhaaDoor.Px
