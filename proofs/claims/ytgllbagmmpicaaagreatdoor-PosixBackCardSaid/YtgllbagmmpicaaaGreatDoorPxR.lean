/- The function analemmaref37.At: the local time of a TZ at an instant. -/
import Derived.Test.YtgllbagmmpicaaaGreatDoorPxT
import Derived.OneCell
namespace Go.Proofs.YtgllbagmmpicaaaGreatDoor.Px
open Go.RowKit
open Civ

theorem cells_at {w : World} {b : Nat} {cs : Array Value} {t : TypeId} (h : w.heap[b]? = some (.cells cs t (0, 0))) (i : Nat) : w.cell? ⟨b, i, none⟩ = cs[i]? := by simp [World.cell?, h]
theorem free_at {w : World} {b : Nat} {cs : Array Value} {t : TypeId} (h : w.heap[b]? = some (.cells cs t (0, 0))) (i : Nat) : w.frozen? ⟨b, i, none⟩ = false := by simp [World.frozen?, h]
theorem cells_set {w : World} {b : Nat} {cs : Array Value} {t : TypeId} (h : w.heap[b]? = some (.cells cs t (0, 0))) (i : Nat) (u : Value) : (w.setCell ⟨b, i, none⟩ u).heap[b]? = some (.cells (cs.setIfInBounds i u) t (0, 0)) := by
  have hlt := lt_of_block h
  have h' : w.heap[b] = .cells cs t (0, 0) := by simpa [Array.getElem?_eq_getElem hlt] using h
  show (w.heap.modify b _)[b]? = _
  rw [Array.getElem?_eq_getElem (by simpa using hlt), Array.getElem_modify_self, h']
  rfl
theorem heap_new (w : World) (o : Obj) : (w.alloc o).heap[w.heap.size]? = some o := by
  show (w.heap.push o)[w.heap.size]? = some o
  simp
theorem heap_old {w : World} {b : Nat} {x : Obj} (h : w.heap[b]? = some x) (o : Obj) : (w.alloc o).heap[b]? = some x := by
  rw [← h]; exact Below.heap_alloc _ _ _ (lt_of_block h)
theorem heap_keep {W V : World} {b : Nat} {x : Obj} (h : W.heap[b]? = some x) (hB : Below W.heap.size W V) : V.heap[b]? = some x := (hB.block _ (lt_of_block h)).trans h
theorem row3 {w : World} {b : Nat} {x y z : Value} {t : TypeId} (h : w.heap[b]? = some (.cells #[x, y, z] t (0, 0))) : (w.cell? ⟨b, 0, none⟩ = some x ∧ w.cell? ⟨b, 1, none⟩ = some y ∧ w.cell? ⟨b, 2, none⟩ = some z) ∧
    w.frozen? ⟨b, 0, none⟩ = false ∧ w.frozen? ⟨b, 1, none⟩ = false ∧ w.frozen? ⟨b, 2, none⟩ = false :=
  ⟨⟨cells_at h 0, cells_at h 1, cells_at h 2⟩, free_at h 0, free_at h 1, free_at h 2⟩
/-- a local time -/
def Loc (o : Int) (d : Bool) (s : ByteArray) : Value := .agg #[.int .i64 o, .bool d, .string s]
set_option maxHeartbeats 4000000 in
set_option maxRecDepth 100000 in
theorem ref_at_bad (a c : ByteArray) (b d k1 d1 m1 w1 s1 k2 d2 m2 w2 s2 : Int) (t : Int) (ha : a.size ≤ 1000000) (hc : c.size ≤ 1000000) (hp : Pos.ok ⟨a, b, c, d, ⟨k1, d1, m1, w1, s1⟩, ⟨k2, d2, m2, w2, s2⟩⟩ = false) (w : World) :
    Calls Tryz.prog 18 #[.agg #[.string a, .int .i64 b, .string c, .int .i64 d, .int .i64 k1, .int .i64 d1, .int .i64 m1, .int .i64 w1, .int .i64 s1, .int .i64 k2, .int .i64 d2, .int .i64 m2, .int .i64 w2, .int .i64 s2], .int .i64 t] w fun e w' => e = .returned (.tuple #[Loc 0 false ⟨#[]⟩, .int .i64 2]) ∧ Below w.heap.size w w' := by
  have CC := Lib.hid (ref_check ⟨a, b, c, d, ⟨k1, d1, m1, w1, s1⟩, ⟨k2, d2, m2, w2, s2⟩⟩ ha hc)
  rw [hp] at CC
  have HA := Lib.hid (((Below.refl _ w).alloc (Nat.le_refl _) (.cells #[.string a, .int .i64 b, .string c, .int .i64 d, .int .i64 k1, .int .i64 d1, .int .i64 m1, .int .i64 w1, .int .i64 s1, .int .i64 k2, .int .i64 d2, .int .i64 m2, .int .i64 w2, .int .i64 s2] 25)).alloc (by simp) (.cells #[.int .i64 0, .bool false, .string ⟨#[]⟩] 35))
  clear hp
  go_enter Tryz.func18, Tryz.ntmps18
  go_wp2_with fail
  refine (CC.out _).mono ?_
  rintro e V ⟨rfl, hb⟩
  rw [show codeE false = 2 from rfl]
  have hres := heap_keep (b := w.heap.size + 1) (x := .cells #[.int .i64 0, .bool false, .string ⟨#[]⟩] 35 (0, 0)) (by rw [← show (w.alloc (.cells #[.string a, .int .i64 b, .string c, .int .i64 d, .int .i64 k1, .int .i64 d1, .int .i64 m1, .int .i64 w1, .int .i64 s1, .int .i64 k2, .int .i64 d2, .int .i64 m2, .int .i64 w2, .int .i64 s2] 25)).heap.size = w.heap.size + 1 by simp]; exact heap_new _ _) hb
  have HV := Lib.hid (HA.out.trans (hb.mono HA.out.size))
  obtain ⟨⟨r0, r1, r2⟩, f0, f1, f2⟩ := row3 hres
  have HR := Lib.hid hres
  clear hb hres
  go_wp2_with fail
  refine bodyPost_ret (v := .tuple #[Loc 0 false ⟨#[]⟩, .int .i64 2]) (by simp [results, Tryz.results18, go_sem, Loc, r0, r1, r2]) rfl ⟨rfl, ?_⟩
  exact ((HV.out.setCell (by simp) _).setCell (by simp) _).setCell (by simp) _
end Go.Proofs.YtgllbagmmpicaaaGreatDoor.Px
