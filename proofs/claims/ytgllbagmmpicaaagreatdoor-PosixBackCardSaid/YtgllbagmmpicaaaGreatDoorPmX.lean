/- The method (analemmalaw37.Draft).Made: the TZ of a draft. -/
import Derived.Test.YtgllbagmmpicaaaGreatDoorPmW
import Derived.Test.YtgllbagmmpicaaaGreatDoorPrS
import Derived.Test.YtgllbagmmpicaaaGreatDoorKn
import Derived.Deep.RegionHeld3
import Derived.Outline
namespace Go.Proofs.YtgllbagmmpicaaaGreatDoor.Px
open Go.RowKit
open Civ

def Drf.cells (d : Drf) : Array Value := #[.int .u8 d.n0, .int .u8 d.n1, .int .u8 d.o0, .int .u8 d.o1, .int .u8 d.k0, .int .u8 d.k1, .int .u8 d.d0, .int .u8 d.d1, .int .u8 d.s0, .int .u8 d.s1, .bool d.non]
/-- the blocks of the method Made: the draft's, the result's, and the TZ's, which lies in block b -/
structure Md (w : World) (d : Drf) (b : Nat) (p : Pos) (X : World) : Prop where
  below : Below w.heap.size w X
  box : X.heap[w.heap.size]? = some (.cells d.cells 41 (0, 0))
  res : X.heap[w.heap.size + 1]? = some (.cells Pos.zero.cells 25 (0, 0))
  pos : X.heap[b]? = some (.cells p.cells 25 (0, 0))
  lt : w.heap.size + 1 < b
theorem Md.call {w : World} {d : Drf} {b : Nat} {p : Pos} {X Y Z : World} (h : Md w d b p X) (hB : Below Y.heap.size Y Z) (he : Y.heap = X.heap) (ho : Y.os = X.os) (ht : Y.tape = X.tape) (hp : Y.output = X.output) : Md w d b p Z :=
  have hC : Below X.heap.size X Z := below_over hB he ho ht hp
  ⟨h.below.trans (hC.mono h.below.size), heap_keep h.box hC, heap_keep h.res hC, heap_keep h.pos hC, h.lt⟩
theorem Md.set {w : World} {d : Drf} {b : Nat} {p : Pos} {X : World} (h : Md w d b p X) (i : Nat) (u : Value) (p' : Pos) (he : p.cells.setIfInBounds i u = p'.cells) : Md w d b p' (X.setCell ⟨b, i, none⟩ u) :=
  ⟨h.below.setCell (by have := h.lt; show w.heap.size ≤ b; omega) u, (Below.heap_setCell _ _ _ _ (by have := h.lt; show w.heap.size ≠ b; omega)).trans h.box, (Below.heap_setCell _ _ _ _ (by have := h.lt; show w.heap.size + 1 ≠ b; omega)).trans h.res,
    by rw [← he]; exact cells_set h.pos i u, h.lt⟩
theorem Md.same {w : World} {d : Drf} {b : Nat} {p : Pos} {X Y : World} (h : Md w d b p X) (he : Y.heap = X.heap) (ho : Y.os = X.os) (ht : Y.tape = X.tape) (hp : Y.output = X.output) : Md w d b p Y :=
  h.call (Below.refl _ Y) he ho ht hp
/-- a slot that points to the TZ -/
def MdAt (w : World) (d : Drf) (p : Pos) (v : Value) (X : World) : Prop := ∃ b, v = .pointer (some ⟨b, 0, none⟩) ∧ Md w d b p X
/-- the cells of the draft in a world -/
theorem Md.boxes {w : World} {n0 n1 o0 o1 k0 k1 d0 d1 s0 s1 : Int} {q : Bool} {b : Nat} {p : Pos} {X : World} (h : Md w ⟨n0, n1, o0, o1, k0, k1, d0, d1, s0, s1, q⟩ b p X) :
    X.cell? ⟨w.heap.size, 0, none⟩ = some (.int .u8 n0) ∧ X.cell? ⟨w.heap.size, 1, none⟩ = some (.int .u8 n1) ∧ X.cell? ⟨w.heap.size, 2, none⟩ = some (.int .u8 o0) ∧ X.cell? ⟨w.heap.size, 3, none⟩ = some (.int .u8 o1) ∧ X.cell? ⟨w.heap.size, 4, none⟩ = some (.int .u8 k0) ∧ X.cell? ⟨w.heap.size, 5, none⟩ = some (.int .u8 k1) ∧ X.cell? ⟨w.heap.size, 6, none⟩ = some (.int .u8 d0) ∧ X.cell? ⟨w.heap.size, 7, none⟩ = some (.int .u8 d1) ∧ X.cell? ⟨w.heap.size, 8, none⟩ = some (.int .u8 s0) ∧ X.cell? ⟨w.heap.size, 9, none⟩ = some (.int .u8 s1) ∧ X.cell? ⟨w.heap.size, 10, none⟩ = some (.bool q) :=
  ⟨cells_at h.box 0, cells_at h.box 1, cells_at h.box 2, cells_at h.box 3, cells_at h.box 4, cells_at h.box 5, cells_at h.box 6, cells_at h.box 7, cells_at h.box 8, cells_at h.box 9, cells_at h.box 10⟩
theorem box_cells {w X : World} {n0 n1 o0 o1 k0 k1 d0 d1 s0 s1 : Int} {q : Bool} (h : X.heap[w.heap.size]? = some (.cells (Drf.cells ⟨n0, n1, o0, o1, k0, k1, d0, d1, s0, s1, q⟩) 41 (0, 0))) :
    X.cell? ⟨w.heap.size, 0, none⟩ = some (.int .u8 n0) ∧ X.cell? ⟨w.heap.size, 2, none⟩ = some (.int .u8 o0) := ⟨cells_at h 0, cells_at h 2⟩
/-- what is before the TZ is made -/
structure Md0 (w : World) (d : Drf) (X : World) : Prop where
  below : Below w.heap.size w X
  box : X.heap[w.heap.size]? = some (.cells d.cells 41 (0, 0))
  res : X.heap[w.heap.size + 1]? = some (.cells Pos.zero.cells 25 (0, 0))
theorem Md0.call {w : World} {d : Drf} {X Y Z : World} (h : Md0 w d X) (hB : Below Y.heap.size Y Z) (he : Y.heap = X.heap) (ho : Y.os = X.os) (ht : Y.tape = X.tape) (hp : Y.output = X.output) : Md0 w d Z :=
  have hC : Below X.heap.size X Z := below_over hB he ho ht hp
  ⟨h.below.trans (hC.mono h.below.size), heap_keep h.box hC, heap_keep h.res hC⟩
theorem Md0.same {w : World} {d : Drf} {X Y : World} (h : Md0 w d X) (he : Y.heap = X.heap) (ho : Y.os = X.os) (ht : Y.tape = X.tape) (hp : Y.output = X.output) : Md0 w d Y := h.call (Below.refl _ Y) he ho ht hp
theorem Md0.size {w : World} {d : Drf} {X : World} (h : Md0 w d X) : w.heap.size + 1 < X.heap.size := lt_of_block h.res
theorem Md0.alloc {w : World} {d : Drf} {X : World} (h : Md0 w d X) (o : Obj) : Md0 w d (X.alloc o) := ⟨h.below.alloc h.below.size _, heap_old h.box _, heap_old h.res _⟩
theorem Md0.new {w : World} {d : Drf} {X : World} (h : Md0 w d X) (p : Pos) (T : Nat) (hT : T = 25) : Md w d X.heap.size p (X.alloc (.cells p.cells T)) := by
  subst hT
  exact ⟨h.below.alloc h.below.size _, heap_old h.box _, heap_old h.res _, heap_new _ _, h.size⟩
theorem Md0.newAt {w : World} {d : Drf} {X : World} (h : Md0 w d X) (b : Nat) (hb : X.heap.size = b) (p : Pos) (T : Nat) (hT : T = 25) : Md w d b p (X.alloc (.cells p.cells T)) := by subst hb; exact h.new p T hT
theorem Md.low {w : World} {d : Drf} {b : Nat} {p : Pos} {X : World} (h : Md w d b p X) : Md0 w d X := ⟨h.below, h.box, h.res⟩
theorem Md0.set {w : World} {d : Drf} {X : World} {b i : Nat} {u : Value} (h : Md0 w d X) (hb : w.heap.size + 1 < b) : Md0 w d (X.setCell ⟨b, i, none⟩ u) :=
  ⟨h.below.setCell (by show w.heap.size ≤ b; omega) u, (Below.heap_setCell _ _ _ _ (by show w.heap.size ≠ b; omega)).trans h.box, (Below.heap_setCell _ _ _ _ (by show w.heap.size + 1 ≠ b; omega)).trans h.res⟩
theorem Md0.drew {w : World} {d : Drf} {X : World} (h : Md0 w d X) : Md0 w d X.drew := h.same rfl rfl rfl rfl
theorem Md0.callD {w : World} {d : Drf} {X Z : World} (h : Md0 w d X) (hB : Below X.drew.heap.size X.drew Z) : Md0 w d Z := h.call hB rfl rfl rfl rfl
theorem Md.callD {w : World} {d : Drf} {b : Nat} {p : Pos} {X Z : World} (h : Md w d b p X) (hB : Below X.drew.heap.size X.drew Z) : Md w d b p Z := h.call hB rfl rfl rfl rfl
theorem Md0.start (w : World) (d : Drf) (T1 T2 : Nat) (h1 : T1 = 41) (h2 : T2 = 25) : Md0 w d ((w.alloc (.cells d.cells T1)).alloc (.cells Pos.zero.cells T2)) := by
  subst h1 h2
  have z1 : (w.alloc (.cells d.cells 41)).heap.size = w.heap.size + 1 := by simp
  refine ⟨((Below.refl _ w).alloc (Nat.le_refl _) _).alloc (by rw [z1]; omega) _, heap_old (heap_new w _) _, ?_⟩
  have := heap_new (w.alloc (.cells d.cells 41)) (.cells Pos.zero.cells 25)
  rwa [z1] at this
theorem md0_S {w X : World} {n0 n1 o0 o1 k0 k1 d0 d1 s0 s1 : Int} {q : Bool} (h : Md0 w ⟨n0, n1, o0, o1, k0, k1, d0, d1, s0, s1, q⟩ X) :
    X.cell? ⟨w.heap.size, 0, none⟩ = some (.int .u8 n0) ∧ X.cell? ⟨w.heap.size, 2, none⟩ = some (.int .u8 o0) ∧ Md0 w ⟨n0, n1, o0, o1, k0, k1, d0, d1, s0, s1, q⟩ X := ⟨cells_at h.box 0, cells_at h.box 2, h⟩
theorem md1_S {w X : World} {n0 n1 o0 o1 k0 k1 d0 d1 s0 s1 : Int} {q : Bool} (h : Md0 w ⟨n0, n1, o0, o1, k0, k1, d0, d1, s0, s1, q⟩ X) :
    X.cell? ⟨w.heap.size, 1, none⟩ = some (.int .u8 n1) ∧ X.cell? ⟨w.heap.size, 3, none⟩ = some (.int .u8 o1) ∧ Md0 w ⟨n0, n1, o0, o1, k0, k1, d0, d1, s0, s1, q⟩ X := ⟨cells_at h.box 1, cells_at h.box 3, h⟩
theorem md2_S {w X : World} {n0 n1 o0 o1 k0 k1 d0 d1 s0 s1 : Int} {q : Bool} (h : Md0 w ⟨n0, n1, o0, o1, k0, k1, d0, d1, s0, s1, q⟩ X) :
    X.cell? ⟨w.heap.size, 4, none⟩ = some (.int .u8 k0) ∧ X.cell? ⟨w.heap.size, 5, none⟩ = some (.int .u8 k1) ∧ X.cell? ⟨w.heap.size, 6, none⟩ = some (.int .u8 d0) ∧ X.cell? ⟨w.heap.size, 7, none⟩ = some (.int .u8 d1) ∧ X.cell? ⟨w.heap.size, 8, none⟩ = some (.int .u8 s0) ∧ X.cell? ⟨w.heap.size, 9, none⟩ = some (.int .u8 s1) ∧ Md0 w ⟨n0, n1, o0, o1, k0, k1, d0, d1, s0, s1, q⟩ X :=
  ⟨cells_at h.box 4, cells_at h.box 5, cells_at h.box 6, cells_at h.box 7, cells_at h.box 8, cells_at h.box 9, h⟩
theorem Md.keep {w : World} {d : Drf} {b : Nat} {p : Pos} {X Z : World} (h : Md w d b p X) (hB : Below X.heap.size X Z) : Md w d b p Z := h.call hB rfl rfl rfl rfl
theorem Md.drew {w : World} {d : Drf} {b : Nat} {p : Pos} {X : World} (h : Md w d b p X) : Md w d b p X.drew := h.same rfl rfl rfl rfl
theorem Md.start5 {w : World} {d : Drf} {b : Nat} {a c : ByteArray} {B o : Int} {s t : Dt} {X : World} (h : Md w d b ⟨a, B, c, o, s, t⟩ X) (e1 e2 e3 e4 e5 : Int) :
    Md w d b ⟨a, B, c, o, ⟨e1, e2, e3, e4, e5⟩, t⟩ (((((X.setCell ⟨b, 4, none⟩ (.int .i64 e1)).setCell ⟨b, 5, none⟩ (.int .i64 e2)).setCell ⟨b, 6, none⟩ (.int .i64 e3)).setCell ⟨b, 7, none⟩ (.int .i64 e4)).setCell ⟨b, 8, none⟩ (.int .i64 e5)) := by
  obtain ⟨x1, x2, x3, x4, x5⟩ := s
  exact ((((h.set 4 (.int .i64 e1) ⟨a, B, c, o, ⟨e1, x2, x3, x4, x5⟩, t⟩ rfl).set 5 (.int .i64 e2) ⟨a, B, c, o, ⟨e1, e2, x3, x4, x5⟩, t⟩ rfl).set 6 (.int .i64 e3) ⟨a, B, c, o, ⟨e1, e2, e3, x4, x5⟩, t⟩ rfl).set 7 (.int .i64 e4) ⟨a, B, c, o, ⟨e1, e2, e3, e4, x5⟩, t⟩ rfl).set 8 (.int .i64 e5) ⟨a, B, c, o, ⟨e1, e2, e3, e4, e5⟩, t⟩ rfl
theorem Md.stop5 {w : World} {d : Drf} {b : Nat} {a c : ByteArray} {B o : Int} {s t : Dt} {X : World} (h : Md w d b ⟨a, B, c, o, s, t⟩ X) (e1 e2 e3 e4 e5 : Int) :
    Md w d b ⟨a, B, c, o, s, ⟨e1, e2, e3, e4, e5⟩⟩ (((((X.setCell ⟨b, 9, none⟩ (.int .i64 e1)).setCell ⟨b, 10, none⟩ (.int .i64 e2)).setCell ⟨b, 11, none⟩ (.int .i64 e3)).setCell ⟨b, 12, none⟩ (.int .i64 e4)).setCell ⟨b, 13, none⟩ (.int .i64 e5)) := by
  obtain ⟨x1, x2, x3, x4, x5⟩ := t
  exact ((((h.set 9 (.int .i64 e1) ⟨a, B, c, o, s, ⟨e1, x2, x3, x4, x5⟩⟩ rfl).set 10 (.int .i64 e2) ⟨a, B, c, o, s, ⟨e1, e2, x3, x4, x5⟩⟩ rfl).set 11 (.int .i64 e3) ⟨a, B, c, o, s, ⟨e1, e2, e3, x4, x5⟩⟩ rfl).set 12 (.int .i64 e4) ⟨a, B, c, o, s, ⟨e1, e2, e3, e4, x5⟩⟩ rfl).set 13 (.int .i64 e5) ⟨a, B, c, o, s, ⟨e1, e2, e3, e4, e5⟩⟩ rfl
theorem Md.row {w : World} {d : Drf} {b : Nat} {a c : ByteArray} {B o e1 e2 e3 e4 e5 g1 g2 g3 g4 g5 : Int} {X : World} (h : Md w d b ⟨a, B, c, o, ⟨e1, e2, e3, e4, e5⟩, ⟨g1, g2, g3, g4, g5⟩⟩ X) :
    X.heap[b]? = some (.cells #[.string a, .int .i64 B, .string c, .int .i64 o, .int .i64 e1, .int .i64 e2, .int .i64 e3, .int .i64 e4, .int .i64 e5, .int .i64 g1, .int .i64 g2, .int .i64 g3, .int .i64 g4, .int .i64 g5] 25 (0, 0)) := h.pos
theorem Md.row0 {w : World} {d : Drf} {b : Nat} {a c : ByteArray} {B o : Int} {X : World} (h : Md w d b ⟨a, B, c, o, Dt.zero, Dt.zero⟩ X) :
    X.heap[b]? = some (.cells #[.string a, .int .i64 B, .string c, .int .i64 o, .int .i64 0, .int .i64 0, .int .i64 0, .int .i64 0, .int .i64 0, .int .i64 0, .int .i64 0, .int .i64 0, .int .i64 0, .int .i64 0] 25 (0, 0)) := h.pos
theorem Md.resrow {w : World} {d : Drf} {b : Nat} {p : Pos} {X : World} (h : Md w d b p X) :
    X.heap[w.heap.size + 1]? = some (.cells #[.string ⟨#[]⟩, .int .i64 0, .string ⟨#[]⟩, .int .i64 0, .int .i64 0, .int .i64 0, .int .i64 0, .int .i64 0, .int .i64 0, .int .i64 0, .int .i64 0, .int .i64 0, .int .i64 0, .int .i64 0] 25 (0, 0)) := h.res
set_option maxHeartbeats 8000000 in
set_option maxRecDepth 100000 in
theorem made_cells (n0 n1 o0 o1 k0 k1 d0 d1 s0 s1 : Int) (q : Bool) (h : Drf.In ⟨n0, n1, o0, o1, k0, k1, d0, d1, s0, s1, q⟩) (w : World) :
    Calls Tryz.prog 19 #[.agg #[.int .u8 n0, .int .u8 n1, .int .u8 o0, .int .u8 o1, .int .u8 k0, .int .u8 k1, .int .u8 d0, .int .u8 d1, .int .u8 s0, .int .u8 s1, .bool q]] w fun e w' =>
      e = .returned (Drf.made ⟨n0, n1, o0, o1, k0, k1, d0, d1, s0, s1, q⟩).val ∧ Below w.heap.size w w' := by
  have C1 := Lib.hid (fun w => made_name n0 h.n0 w)
  have C2 := Lib.hid (fun w => made_off o0 h.o0 w)
  have HS : Hid (Md0 w ⟨n0, n1, o0, o1, k0, k1, d0, d1, s0, s1, q⟩ ((w.alloc (.cells #[.int .u8 n0, .int .u8 n1, .int .u8 o0, .int .u8 o1, .int .u8 k0, .int .u8 k1, .int .u8 d0, .int .u8 d1, .int .u8 s0, .int .u8 s1, .bool q] 41)).alloc (.cells #[.string ⟨#[]⟩, .int .i64 0, .string ⟨#[]⟩, .int .i64 0, .int .i64 0, .int .i64 0, .int .i64 0, .int .i64 0, .int .i64 0, .int .i64 0, .int .i64 0, .int .i64 0, .int .i64 0, .int .i64 0] 25))) := Lib.hid (Md0.start w ⟨n0, n1, o0, o1, k0, k1, d0, d1, s0, s1, q⟩ 41 25 rfl rfl)
  have HI := Lib.hid h
  clear h
  go_enter Tryz.func19, Tryz.ntmps19
  go_wp2_with fail
  obtain ⟨c0, c2, _⟩ := md0_S HS.out
  obtain ⟨A, hA⟩ : ∃ A, nameN n0 = A := ⟨_, rfl⟩
  obtain ⟨B, hB⟩ : ∃ B, offN o0 = B := ⟨_, rfl⟩
  rw [hA] at C1
  rw [hB] at C2
  go_cut [6] (fun v wx => MdAt w ⟨n0, n1, o0, o1, k0, k1, d0, d1, s0, s1, q⟩ ⟨A, B, bs [], 0, Dt.zero, Dt.zero⟩ v wx)
  case first =>
    have HN : Hid (Md w ⟨n0, n1, o0, o1, k0, k1, d0, d1, s0, s1, q⟩ (w.heap.size + 1 + 1) Pos.zero (((w.alloc (.cells #[.int .u8 n0, .int .u8 n1, .int .u8 o0, .int .u8 o1, .int .u8 k0, .int .u8 k1, .int .u8 d0, .int .u8 d1, .int .u8 s0, .int .u8 s1, .bool q] 41)).alloc (.cells #[.string ⟨#[]⟩, .int .i64 0, .string ⟨#[]⟩, .int .i64 0, .int .i64 0, .int .i64 0, .int .i64 0, .int .i64 0, .int .i64 0, .int .i64 0, .int .i64 0, .int .i64 0, .int .i64 0, .int .i64 0] 25)).alloc (.cells #[.string ⟨#[]⟩, .int .i64 0, .string ⟨#[]⟩, .int .i64 0, .int .i64 0, .int .i64 0, .int .i64 0, .int .i64 0, .int .i64 0, .int .i64 0, .int .i64 0, .int .i64 0, .int .i64 0, .int .i64 0] 25))) := Lib.hid (HS.out.newAt (w.heap.size + 1 + 1) (by simp) Pos.zero 25 rfl)
    go_region_held3 (fun w' => w'.cell? ⟨w.heap.size, 0, none⟩ = some (.int .u8 n0) ∧ w'.cell? ⟨w.heap.size, 2, none⟩ = some (.int .u8 o0) ∧ Md0 w ⟨n0, n1, o0, o1, k0, k1, d0, d1, s0, s1, q⟩ w')
      (first | with_reducible exact md0_S HX1.out.low | with_reducible exact md0_S HX0.out | with_reducible exact md0_S (HX0.out.alloc _) | with_reducible exact md0_S (HS.out.drew) | with_reducible exact md0_S (HN.out.low.drew) | with_reducible exact md0_S (((((((((((((((Md0.set (Md.low HX1.out) HX1.out.lt).set HX1.out.lt).set HX1.out.lt).set HX1.out.lt).set HX1.out.lt).set HX1.out.lt).set HX1.out.lt).set HX1.out.lt).set HX1.out.lt).set HX1.out.lt).set HX1.out.lt).set HX1.out.lt).set HX1.out.lt).set HX1.out.lt)))
      (first
        | (go_at_call 50; refine (C1.out _).mono ?_; rintro e X ⟨rfl, hb⟩; first | (with_reducible have HX0 : Hid (Md0 w ⟨n0, n1, o0, o1, k0, k1, d0, d1, s0, s1, q⟩ X) := Lib.hid (HS.out.callD hb); clear hb) | (with_reducible have HX1 : Hid (Md w ⟨n0, n1, o0, o1, k0, k1, d0, d1, s0, s1, q⟩ (w.heap.size + 1 + 1) Pos.zero X) := Lib.hid (HN.out.callD hb); obtain ⟨t0, t1, t2, t3, t4, t5, t6, t7, t8, t9, t10, t11, t12, t13⟩ := row14 HX1.out.pos; obtain ⟨u0, u1, u2, u3, u4, u5, u6, u7, u8, u9, u10, u11, u12, u13⟩ := free14 HX1.out.pos; clear hb))
        | (go_at_call 51; refine (C2.out _).mono ?_; rintro e X ⟨rfl, rfl⟩))
    -- CLOSE
    all_goals
      go_wp2_with fail
      go_meet
      first
        | exact ⟨_, rfl, HX0.out.new ⟨A, B, bs [], 0, Dt.zero, Dt.zero⟩ _ rfl⟩
        | exact ⟨_, rfl, ((((((((((((((HX1.out.set 0 (.string A) ⟨A, 0, bs [], 0, Dt.zero, Dt.zero⟩ rfl).set 1 (.int .i64 B) ⟨A, B, bs [], 0, Dt.zero, Dt.zero⟩ rfl).set 2 (.string ⟨#[]⟩) ⟨A, B, bs [], 0, Dt.zero, Dt.zero⟩ rfl).set 3 (.int .i64 0) ⟨A, B, bs [], 0, Dt.zero, Dt.zero⟩ rfl).set 4 (.int .i64 0) ⟨A, B, bs [], 0, Dt.zero, Dt.zero⟩ rfl).set 5 (.int .i64 0) ⟨A, B, bs [], 0, Dt.zero, Dt.zero⟩ rfl).set 6 (.int .i64 0) ⟨A, B, bs [], 0, Dt.zero, Dt.zero⟩ rfl).set 7 (.int .i64 0) ⟨A, B, bs [], 0, Dt.zero, Dt.zero⟩ rfl).set 8 (.int .i64 0) ⟨A, B, bs [], 0, Dt.zero, Dt.zero⟩ rfl).set 9 (.int .i64 0) ⟨A, B, bs [], 0, Dt.zero, Dt.zero⟩ rfl).set 10 (.int .i64 0) ⟨A, B, bs [], 0, Dt.zero, Dt.zero⟩ rfl).set 11 (.int .i64 0) ⟨A, B, bs [], 0, Dt.zero, Dt.zero⟩ rfl).set 12 (.int .i64 0) ⟨A, B, bs [], 0, Dt.zero, Dt.zero⟩ rfl).set 13 (.int .i64 0) ⟨A, B, bs [], 0, Dt.zero, Dt.zero⟩ rfl)⟩
  case rest =>
    obtain ⟨b, rfl, hM⟩ := hcut
    have HM := Lib.hid hM
    have HA := Lib.hid hA
    have HB := Lib.hid hB
    clear hM hA hB c0 c2
    obtain ⟨m0, m1, m2, m3, m4, m5, m6, m7, m8, m9, m10⟩ := HM.out.boxes
    obtain ⟨p0, p1, p2, p3, p4, p5, p6, p7, p8, p9, p10, p11, p12, p13⟩ := row14 HM.out.row0
    obtain ⟨r0, r1, r2, r3, r4, r5, r6, r7, r8, r9, r10, r11, r12, r13⟩ := row14 HM.out.resrow
    obtain ⟨f0, f1, f2, f3, f4, f5, f6, f7, f8, f9, f10, f11, f12, f13⟩ := free14 HM.out.resrow
    cases q
    · have HG := Lib.hid (free14 HM.out.row0)
      have D1 := Lib.hid (fun w => made_name n1 HI.out.n1 w)
      have D2 := Lib.hid (fun w => made_off o1 HI.out.o1 w)
      obtain ⟨C, hC⟩ : ∃ C, nameN n1 = C := ⟨_, rfl⟩
      obtain ⟨O, hO⟩ : ∃ O, offN o1 = O := ⟨_, rfl⟩
      rw [hC] at D1
      rw [hO] at D2
      obtain ⟨_, _, g2, g3, _⟩ := HG.out
      have hlt := HM.out.lt
      have HC := Lib.hid hC
      have HO := Lib.hid hO
      have HDS := Lib.hid (show dstN o0 o1 = if o1 % 3 = 0 then (if 89999 < B + 3600 then 89999 else B + 3600) else O by unfold dstN; rw [HB.out, hO])
      have ob := dst_ok HI.out.o0 HI.out.o1
      rw [offB_iff] at ob
      obtain ⟨Q, hQ⟩ : ∃ Q, dstN o0 o1 = Q := ⟨_, rfl⟩
      rw [hQ] at HDS ob
      have HQ := Lib.hid hQ
      clear hC hO hQ
      go_wp2_with fail
      go_cut [25] (fun _ wx => Md w ⟨n0, n1, o0, o1, k0, k1, d0, d1, s0, s1, false⟩ b ⟨A, B, C, O, Dt.zero, Dt.zero⟩ wx)
      case first =>
        have HM3 := Lib.hid (HM.out.set 3 (.int .i64 O) ⟨A, B, bs [], O, Dt.zero, Dt.zero⟩ rfl)
        go_region_held3 (fun w' => w'.cell? ⟨w.heap.size, 1, none⟩ = some (.int .u8 n1) ∧ w'.cell? ⟨w.heap.size, 3, none⟩ = some (.int .u8 o1) ∧ Md0 w ⟨n0, n1, o0, o1, k0, k1, d0, d1, s0, s1, false⟩ w')
          (first | with_reducible exact md1_S HX1.out.low | with_reducible exact md1_S HX0.out.low | with_reducible exact md1_S HM.out.low.drew | with_reducible exact md1_S HM3.out.low.drew | with_reducible exact md1_S (Md0.set HX0.out.low HX0.out.lt) | with_reducible exact md1_S (Md0.set (Md0.set HX0.out.low HX0.out.lt) HX0.out.lt) | with_reducible exact md1_S (Md0.set HX1.out.low HX1.out.lt))
          (first
            | (go_at_call 50; refine (D1.out _).mono ?_; rintro e X ⟨rfl, hb⟩; first | (with_reducible have HX0 : Hid (Md w ⟨n0, n1, o0, o1, k0, k1, d0, d1, s0, s1, false⟩ b ⟨A, B, bs [], 0, Dt.zero, Dt.zero⟩ X) := Lib.hid (HM.out.callD hb); obtain ⟨_, _, t2, t3, _⟩ := row14 HX0.out.row0; obtain ⟨_, _, u2, u3, _⟩ := free14 HX0.out.row0; clear hb) | (with_reducible have HX1 : Hid (Md w ⟨n0, n1, o0, o1, k0, k1, d0, d1, s0, s1, false⟩ b ⟨A, B, bs [], O, Dt.zero, Dt.zero⟩ X) := Lib.hid (HM3.out.callD hb); obtain ⟨_, _, t2, t3, _⟩ := row14 HX1.out.row0; obtain ⟨_, _, u2, u3, _⟩ := free14 HX1.out.row0; clear hb))
            | (go_at_call 51; refine (D2.out _).mono ?_; rintro e X ⟨rfl, rfl⟩))
        all_goals
          go_wp2_with fail
          go_meet
          first
            | exact (HX0.out.set 2 (.string C) ⟨A, B, C, 0, Dt.zero, Dt.zero⟩ rfl).set 3 (.int .i64 O) ⟨A, B, C, O, Dt.zero, Dt.zero⟩ rfl
            | exact (HX0.out.set 3 (.int .i64 O) ⟨A, B, bs [], O, Dt.zero, Dt.zero⟩ rfl).set 2 (.string C) ⟨A, B, C, O, Dt.zero, Dt.zero⟩ rfl
            | exact HX1.out.set 2 (.string C) ⟨A, B, C, O, Dt.zero, Dt.zero⟩ rfl
      case rest =>
        have HMC := Lib.hid hcut
        have ob2 := off_ok HI.out.o0
        rw [offB_iff, HB.out] at ob2
        obtain ⟨ob3, ob4⟩ := ob2
        have om : o1.tmod 3 = o1 % 3 := Int.tmod_eq_emod_of_nonneg HI.out.o1.1
        clear hcut m0 m1 m2 m3 m4 m5 m6 m7 m8 m9 m10 p0 p1 p2 p3 p4 p5 p6 p7 p8 p9 p10 p11 p12 p13 r0 r1 r2 r3 r4 r5 r6 r7 r8 r9 r10 r11 r12 r13 f0 f1 f2 f3 f4 f5 f6 f7 f8 f9 f10 f11 f12 f13 g2 g3 hlt
        obtain ⟨m0, m1, m2, m3, m4, m5, m6, m7, m8, m9, m10⟩ := HMC.out.boxes
        obtain ⟨_, p1, _, p3, _⟩ := row14 HMC.out.row0
        obtain ⟨_, _, _, f3, _⟩ := free14 HMC.out.row0
        have HT3 := Lib.hid (show (o1 % 3 == 0) = true ↔ o1 % 3 = 0 by simp)
        obtain ⟨T, hT⟩ : ∃ T, (o1 % 3 == 0) = T := ⟨_, rfl⟩
        rw [hT] at HT3
        go_upto_if 37 with fail
        go_cut [36] (fun _ wx => Md w ⟨n0, n1, o0, o1, k0, k1, d0, d1, s0, s1, false⟩ b ⟨A, B, C, Q, Dt.zero, Dt.zero⟩ wx)
        case first =>
          clear hT om
          cases T
          · have HD := HDS.out
            rw [if_neg (fun h => by have := HT3.out.2 h; cases this)] at HD
            subst HD
            clear HDS
            go_wp2_with fail
            go_meet
            exact HMC.out
          · have HD := HDS.out
            rw [if_pos (HT3.out.1 rfl)] at HD
            clear HDS
            by_cases h4 : 89999 < B + 3600
            · rw [if_pos h4] at HD
              subst HD
              go_wp2_with fail
              go_meet
              exact (HMC.out.set 3 (.int .i64 (B + 3600)) ⟨A, B, C, B + 3600, Dt.zero, Dt.zero⟩ rfl).set 3 (.int .i64 89999) ⟨A, B, C, 89999, Dt.zero, Dt.zero⟩ rfl
            · rw [if_neg h4] at HD
              subst HD
              go_wp2_with fail
              go_meet
              exact HMC.out.set 3 (.int .i64 (B + 3600)) ⟨A, B, C, B + 3600, Dt.zero, Dt.zero⟩ rfl
        case rest =>
          have HM2 := Lib.hid hcut
          clear hcut m0 m1 m2 m3 m4 m5 m6 m7 m8 m9 m10 p1 p3 f3 HM HDS D1 D2 C1 C2 ob HT3 hT om
          have E1 := Lib.hid (fun w => made_date k0 d0 s0 HI.out.k0 HI.out.d0 HI.out.s0 w)
          have E2 := Lib.hid (fun w => made_date k1 d1 s1 HI.out.k1 HI.out.d1 HI.out.s1 w)
          obtain ⟨SD, hSD⟩ : ∃ D, madeDt k0 d0 s0 = D := ⟨_, rfl⟩
          obtain ⟨ED, hED⟩ : ∃ D, madeDt k1 d1 s1 = D := ⟨_, rfl⟩
          rw [hSD] at E1
          rw [hED] at E2
          have HSD := Lib.hid hSD
          have HED := Lib.hid hED
          clear hSD hED
          obtain ⟨e1, e2, e3, e4, e5⟩ := SD
          obtain ⟨g1, g2, g3, g4, g5⟩ := ED
          unfold Dt.val at E1 E2
          dsimp only at E1 E2
          obtain ⟨m0, m1, m2, m3, m4, m5, m6, m7, m8, m9, m10⟩ := HM2.out.boxes
          go_wp2_with fail
          go_cut [56] (fun _ wx => Md w ⟨n0, n1, o0, o1, k0, k1, d0, d1, s0, s1, false⟩ b ⟨A, B, C, Q, ⟨e1, e2, e3, e4, e5⟩, ⟨g1, g2, g3, g4, g5⟩⟩ wx)
          case first =>
            go_region_held3 (fun w' => w'.cell? ⟨w.heap.size, 4, none⟩ = some (.int .u8 k0) ∧ w'.cell? ⟨w.heap.size, 5, none⟩ = some (.int .u8 k1) ∧ w'.cell? ⟨w.heap.size, 6, none⟩ = some (.int .u8 d0) ∧ w'.cell? ⟨w.heap.size, 7, none⟩ = some (.int .u8 d1) ∧ w'.cell? ⟨w.heap.size, 8, none⟩ = some (.int .u8 s0) ∧ w'.cell? ⟨w.heap.size, 9, none⟩ = some (.int .u8 s1) ∧ Md0 w ⟨n0, n1, o0, o1, k0, k1, d0, d1, s0, s1, false⟩ w')
              (first | with_reducible exact md2_S HX2.out.low | with_reducible exact md2_S HX1.out.low | with_reducible exact md2_S HM2.out.low.drew | with_reducible exact md2_S (Md0.set (Md0.set (Md0.set (Md0.set (Md0.set HX2.out.low HX2.out.lt) HX2.out.lt) HX2.out.lt) HX2.out.lt) HX2.out.lt) | with_reducible exact md2_S (Md0.set (Md0.set (Md0.set (Md0.set (Md0.set (Md0.set (Md0.set (Md0.set (Md0.set (Md0.set HX2.out.low HX2.out.lt) HX2.out.lt) HX2.out.lt) HX2.out.lt) HX2.out.lt) HX2.out.lt) HX2.out.lt) HX2.out.lt) HX2.out.lt) HX2.out.lt) | with_reducible exact md2_S (Md0.set (Md0.set (Md0.set (Md0.set (Md0.set HX1.out.low HX1.out.lt) HX1.out.lt) HX1.out.lt) HX1.out.lt) HX1.out.lt) | with_reducible exact md2_S (Md0.set (Md0.set (Md0.set (Md0.set (Md0.set (Md0.set (Md0.set (Md0.set (Md0.set (Md0.set HX1.out.low HX1.out.lt) HX1.out.lt) HX1.out.lt) HX1.out.lt) HX1.out.lt) HX1.out.lt) HX1.out.lt) HX1.out.lt) HX1.out.lt) HX1.out.lt))
              (first
            | (go_at_call 52; (with_reducible refine (E1.out _).mono ?_); rintro e X ⟨rfl, hb⟩; first
              | (with_reducible have HX1 : Hid (Md w ⟨n0, n1, o0, o1, k0, k1, d0, d1, s0, s1, false⟩ b ⟨A, B, C, Q, Dt.zero, Dt.zero⟩ X) := Lib.hid (HM2.out.callD hb); obtain ⟨_, _, _, _, t4, t5, t6, t7, t8, t9, t10, t11, t12, t13⟩ := row14 HX1.out.row0; obtain ⟨_, _, _, _, u4, u5, u6, u7, u8, u9, u10, u11, u12, u13⟩ := free14 HX1.out.row0; clear hb)
              | (with_reducible have HX2 : Hid (Md w ⟨n0, n1, o0, o1, k0, k1, d0, d1, s0, s1, false⟩ b ⟨A, B, C, Q, Dt.zero, Dt.zero⟩ X) := Lib.hid (HX1.out.keep hb); clear t4 t5 t6 t7 t8 t9 t10 t11 t12 t13 u4 u5 u6 u7 u8 u9 u10 u11 u12 u13; obtain ⟨_, _, _, _, t4, t5, t6, t7, t8, t9, t10, t11, t12, t13⟩ := row14 HX2.out.row0; obtain ⟨_, _, _, _, u4, u5, u6, u7, u8, u9, u10, u11, u12, u13⟩ := free14 HX2.out.row0; clear hb)
              | (have HX2 : Hid (Md w ⟨n0, n1, o0, o1, k0, k1, d0, d1, s0, s1, false⟩ b ⟨A, B, C, Q, Dt.zero, ⟨g1, g2, g3, g4, g5⟩⟩ X) := Lib.hid ((HX1.out.stop5 g1 g2 g3 g4 g5).keep hb); clear t4 t5 t6 t7 t8 t9 t10 t11 t12 t13 u4 u5 u6 u7 u8 u9 u10 u11 u12 u13; obtain ⟨_, _, _, _, t4, t5, t6, t7, t8, t9, t10, t11, t12, t13⟩ := row14 (show X.heap[b]? = some (.cells #[_, _, _, _, _, _, _, _, _, _, _, _, _, _] _ (0, 0)) from HX2.out.pos); obtain ⟨_, _, _, _, u4, u5, u6, u7, u8, u9, u10, u11, u12, u13⟩ := free14 (show X.heap[b]? = some (.cells #[_, _, _, _, _, _, _, _, _, _, _, _, _, _] _ (0, 0)) from HX2.out.pos); clear hb))
            | (go_at_call 52; (with_reducible refine (E2.out _).mono ?_); rintro e X ⟨rfl, hb⟩; first
              | (with_reducible have HX1 : Hid (Md w ⟨n0, n1, o0, o1, k0, k1, d0, d1, s0, s1, false⟩ b ⟨A, B, C, Q, Dt.zero, Dt.zero⟩ X) := Lib.hid (HM2.out.callD hb); obtain ⟨_, _, _, _, t4, t5, t6, t7, t8, t9, t10, t11, t12, t13⟩ := row14 HX1.out.row0; obtain ⟨_, _, _, _, u4, u5, u6, u7, u8, u9, u10, u11, u12, u13⟩ := free14 HX1.out.row0; clear hb)
              | (with_reducible have HX2 : Hid (Md w ⟨n0, n1, o0, o1, k0, k1, d0, d1, s0, s1, false⟩ b ⟨A, B, C, Q, Dt.zero, Dt.zero⟩ X) := Lib.hid (HX1.out.keep hb); clear t4 t5 t6 t7 t8 t9 t10 t11 t12 t13 u4 u5 u6 u7 u8 u9 u10 u11 u12 u13; obtain ⟨_, _, _, _, t4, t5, t6, t7, t8, t9, t10, t11, t12, t13⟩ := row14 HX2.out.row0; obtain ⟨_, _, _, _, u4, u5, u6, u7, u8, u9, u10, u11, u12, u13⟩ := free14 HX2.out.row0; clear hb)
              | (have HX2 : Hid (Md w ⟨n0, n1, o0, o1, k0, k1, d0, d1, s0, s1, false⟩ b ⟨A, B, C, Q, ⟨e1, e2, e3, e4, e5⟩, Dt.zero⟩ X) := Lib.hid ((HX1.out.start5 e1 e2 e3 e4 e5).keep hb); clear t4 t5 t6 t7 t8 t9 t10 t11 t12 t13 u4 u5 u6 u7 u8 u9 u10 u11 u12 u13; obtain ⟨_, _, _, _, t4, t5, t6, t7, t8, t9, t10, t11, t12, t13⟩ := row14 (show X.heap[b]? = some (.cells #[_, _, _, _, _, _, _, _, _, _, _, _, _, _] _ (0, 0)) from HX2.out.pos); obtain ⟨_, _, _, _, u4, u5, u6, u7, u8, u9, u10, u11, u12, u13⟩ := free14 (show X.heap[b]? = some (.cells #[_, _, _, _, _, _, _, _, _, _, _, _, _, _] _ (0, 0)) from HX2.out.pos); clear hb)))
            all_goals
              go_wp2_with fail
              go_meet
              first
                | exact (HX2.out.start5 e1 e2 e3 e4 e5).stop5 g1 g2 g3 g4 g5
                | exact (HX2.out.stop5 g1 g2 g3 g4 g5).start5 e1 e2 e3 e4 e5
                | exact HX2.out.start5 e1 e2 e3 e4 e5
                | exact HX2.out.stop5 g1 g2 g3 g4 g5
          case rest =>
            have HM4 := Lib.hid hcut
            clear hcut m0 m1 m2 m3 m4 m5 m6 m7 m8 m9 m10
            obtain ⟨p0, p1, p2, p3, p4, p5, p6, p7, p8, p9, p10, p11, p12, p13⟩ := row14 HM4.out.row
            obtain ⟨r0, r1, r2, r3, r4, r5, r6, r7, r8, r9, r10, r11, r12, r13⟩ := row14 HM4.out.resrow
            obtain ⟨f0, f1, f2, f3, f4, f5, f6, f7, f8, f9, f10, f11, f12, f13⟩ := free14 HM4.out.resrow
            go_wp2_with fail
            refine bodyPost_ret (v := .agg #[.string A, .int .i64 B, .string C, .int .i64 Q, .int .i64 e1, .int .i64 e2, .int .i64 e3, .int .i64 e4, .int .i64 e5, .int .i64 g1, .int .i64 g2, .int .i64 g3, .int .i64 g4, .int .i64 g5]) (by simp [results, Tryz.results19, go_sem, r0, r1, r2, r3, r4, r5, r6, r7, r8, r9, r10, r11, r12, r13]) rfl ⟨?_, ?_⟩
            · have hm : Drf.made ⟨n0, n1, o0, o1, k0, k1, d0, d1, s0, s1, false⟩ = ⟨nameN n0, offN o0, nameN n1, dstN o0 o1, madeDt k0 d0 s0, madeDt k1 d1 s1⟩ := rfl
              rw [hm, HA.out, HB.out, HC.out, HQ.out, HSD.out, HED.out]
              rfl
            · exact ((((((((((((((HM4.out.below.setCell (by simp) _).setCell (by simp) _).setCell (by simp) _).setCell (by simp) _).setCell (by simp) _).setCell (by simp) _).setCell (by simp) _).setCell (by simp) _).setCell (by simp) _).setCell (by simp) _).setCell (by simp) _).setCell (by simp) _).setCell (by simp) _).setCell (by simp) _)
    · go_wp2_with fail
      refine bodyPost_ret (v := .agg #[.string A, .int .i64 B, .string (bs []), .int .i64 0, .int .i64 0, .int .i64 0, .int .i64 0, .int .i64 0, .int .i64 0, .int .i64 0, .int .i64 0, .int .i64 0, .int .i64 0, .int .i64 0]) (by simp [results, Tryz.results19, go_sem, r0, r1, r2, r3, r4, r5, r6, r7, r8, r9, r10, r11, r12, r13]) rfl ⟨by rw [← HA.out, ← HB.out]; rfl, ?_⟩
      exact ((((((((((((((HM.out.below.setCell (by simp) _).setCell (by simp) _).setCell (by simp) _).setCell (by simp) _).setCell (by simp) _).setCell (by simp) _).setCell (by simp) _).setCell (by simp) _).setCell (by simp) _).setCell (by simp) _).setCell (by simp) _).setCell (by simp) _).setCell (by simp) _).setCell (by simp) _)
end Go.Proofs.YtgllbagmmpicaaaGreatDoor.Px
