/- The texts of tables, plain: their lines and their lengths; the document's string is the same. No program in sight. The functions copyCheck, WriteByte and WriteString of a strings.Builder that the call itself has made: what they leave. The function table.line: words written as a line to a builder. -/
import Derived.Test.YtkpmmabdpeobaaaGreatDoorSU19
import Derived.Test.YtkpmmabdpeobaaaGreatDoorSU1
import Derived.Test.YtkpmmabdpeobaaaGreatDoorSU7
import Derived.Lib.ItoaLen
import Derived.Lib.Join
import Derived.Test.YtkpmmabdpeobaaaGreatDoorRows
import Derived.Test.YtkpmmabdpeobaaaGreatDoorSShelf
import Derived.WalkKit
import Derived.WalkSpells
import Derived.WalkLawsBesides
import Derived.Lib.Hide
import Derived.Lib.Builder
import Derived.Shelf.Strings.Builder1
import Derived.Shelf.Strings.BuilderX
namespace Go.Proofs.YtkpmmabdpeobaaaGreatDoor.Tb
open Px
def lineT (ws : List (List UInt8)) : List UInt8 := Lib.join ws [32] ++ [10]
def dstW (b : Bool) : List UInt8 := if b then [100, 115, 116] else [115, 116, 100]
def typeW (i : Nat) (l : Lc) : List (List UInt8) := [[116, 121, 112, 101], Lib.itoa i, Off.printO l.off, dstW l.dst, l.abbr.data.toList]
def transW (t : Tr) : List (List UInt8) := [[97, 116], Lib.itoa t.at', Lib.itoa t.ty]
def footW (f : List UInt8) : List (List UInt8) := [[102, 111, 111, 116, 101, 114], f]
def typesT : Nat → List Lc → List UInt8
 | _, [] => []
 | i, l :: r => lineT (typeW i l) ++ typesT (i + 1) r
def transT (l : List Tr) : List UInt8 := l.flatMap (fun t => lineT (transW t))
def textL (x : Tab) : List UInt8 := typesT 0 x.types ++ transT x.trans ++ lineT (footW x.foot)
end Go.Proofs.YtkpmmabdpeobaaaGreatDoor.Tb
namespace Go.Proofs.YtkpmmabdpeobaaaGreatDoor.Lx
open Go.RowKit Go.Shelf
theorem sizeB : (Tryz.prog.info? 131).map (·.size) = some 2 := by kernel_rfl
theorem liesB : liesAt Tryz.prog Tryz.prog.depth 131 (2 / Tryz.prog.cellsOf 131) 0 131 1 = true := by kernel_rfl
theorem infoByte : (Tryz.prog.info? 5).map (fun i => (i.zero, i.size, i.bytes)) = some (some (.int .u8 0), 1, 1) := by kernel_rfl
set_option maxHeartbeats 1000000 in
set_option maxRecDepth 100000 in
theorem copyCheck_fresh (b : Nat) (w : World) (h0 : w.cell? ⟨b, 0, none⟩ = some (.pointer none)) (hsh : w.shape? b = some (131, 2)) (hfz : w.frozen? ⟨b, 0, none⟩ = false) :
 Calls Tryz.prog 126 #[.pointer (some ⟨b, 0, none⟩)] w fun e w' => e = .returned (.tuple #[]) ∧ w' = w.setCell ⟨b, 0, none⟩ (.pointer (some ⟨b, 0, none⟩)) := by
 obtain ⟨j, hj, hjs⟩ := Option.map_eq_some_iff.1 sizeB
 go_enter Tryz.func126, Tryz.ntmps126
 go_wp2
 rw [Lib.run_to_unsafe w ⟨b, 0, none⟩ Tryz.underlying129 Tryz.underlying200 hj (by rw [hjs]; decide) hsh (Nat.zero_lt_succ 1)]
 simp only [Result.andThen]
 rw [Oper.upon_value]
 go_wp2
 rw [run_callFunc_extern Tryz.func163 (by kernel_rfl) (by kernel_rfl) (by kernel_rfl) (e := Extern.AbiNoEscape.same) (by kernel_rfl)]
 rw [Lib.run_noEscape]
 simp only [Result.andThen]
 rw [Oper.upon_value]
 go_wp2
 rw [Lib.run_from_unsafe w ⟨b, 0, none⟩ Tryz.underlying200 Tryz.underlying129 hj hsh liesB]
 simp only [Result.andThen]
 rw [Oper.upon_value]
 go_wp2
 go_end0
 exact ⟨rfl, rfl⟩
set_option maxHeartbeats 1000000 in
set_option maxRecDepth 100000 in
theorem copyCheck_used (b : Nat) (w : World) (h0 : w.cell? ⟨b, 0, none⟩ = some (.pointer (some ⟨b, 0, none⟩))) :
 Calls Tryz.prog 126 #[.pointer (some ⟨b, 0, none⟩)] w fun e w' => e = .returned (.tuple #[]) ∧ w' = w := by
 obtain ⟨j, hj, _⟩ := Option.map_eq_some_iff.1 sizeB
 go_enter Tryz.func126, Tryz.ntmps126
 go_wp2
 rw [Lib.run_neq_ptr_same w _ Tryz.underlying129 hj]
 go_wp2
 go_end0
 exact ⟨rfl, rfl⟩
theorem neB5 : (131 : TypeId) ≠ 5 := by decide
end Go.Proofs.YtkpmmabdpeobaaaGreatDoor.Lx
namespace Go.Proofs.YtkpmmabdpeobaaaGreatDoor.Px
open Go.RowKit
open Civ Tb
def BuB (B b : Nat) (l : List UInt8) (w : World) : Prop := Lib.IsBuilder 131 5 B b (Lib.byteCells l) w
theorem BuB.below {B b : Nat} {l : List UInt8} {w w' : World} (h : BuB B b l w) (hB : Below w.heap.size w w') : BuB B b l w' := by
 have key : ∀ p : Value, Lib.BuilderAt 131 5 B b p (Lib.byteCells l) w → Lib.BuilderAt 131 5 B b p (Lib.byteCells l) w' := by
  rintro p ⟨hBb, v, hb, hown, hne⟩
  have hlt : b < w.heap.size := Lib.BuilderAt.lt ⟨hBb, v, hb, hown, hne⟩
  exact ⟨hBb, v, (hB.block b hlt).trans hb, hown.kept (row := none) ⟨hB.os, hB.tape, hB.output, hB.size, fun i hi _ => hB.block i hi⟩ (by rcases hown.2 with ⟨rfl, _⟩ | ⟨g, cap, cur, rfl, _⟩ <;> simp [Value.ownBlock]), hne⟩
 exact Or.elim h (fun x => .inl (key _ x)) (fun x => .inr (key _ x))
theorem BuB.lt {B b : Nat} {l : List UInt8} {w : World} (h : BuB B b l w) : b < w.heap.size := by
 rcases h with h | h
 · exact Lib.BuilderAt.lt h
 · exact Lib.BuilderAt.lt h
theorem BuB.used {B b : Nat} {l : List UInt8} {bs' : List Value} {w : World} (h : Lib.BuilderAt 131 5 B b (.pointer (some ⟨b, 0, none⟩)) bs' w) (e : bs' = Lib.byteCells l) : BuB B b l w := by
 subst e
 exact .inr h
end Go.Proofs.YtkpmmabdpeobaaaGreatDoor.Px
