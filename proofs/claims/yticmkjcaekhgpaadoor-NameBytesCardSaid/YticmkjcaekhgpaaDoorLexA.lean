/- The functions lexeme.printable and lexeme.Fields, called with any string in any world: what they return, as fieldsOf says; no block that was there changes. -/
import Derived.Test.YticmkjcaekhgpaaDoorRows
import Derived.WalkKit
import Derived.WalkSpells
import Derived.WalkLawsBesides
import Derived.Lib.Hide
import Derived.Maps.AppendAt
namespace Go.Proofs.YticmkjcaekhgpaaDoor.Lex
open Go.RowKit

/-! small things -/
def bytesOf (l : List UInt8) : ByteArray := ⟨l.toArray⟩
theorem len_eq (s : ByteArray) : s.data.toList.length = s.size := rfl
theorem ret_bool {a b : Bool} (h : a = b) : Ending.returned (.bool a) = Ending.returned (.bool b) := by rw [h]

def printB (n : Nat) : Bool := decide (32 ≤ n) && decide (n ≤ 126)
theorem printable_any (c : UInt8) (w : World) :
    Calls Tryd.prog 50 #[.int .u8 (c.toNat : Int)] w fun e w' => e = .returned (.bool (printB c.toNat)) ∧ w = w' := by
  have hc : (c.toNat : Int) ≤ 255 := by have := c.toNat_lt; omega
  go_enter Tryd.func50, Tryd.ntmps50
  go_wp2
  all_goals go_ret
  all_goals refine ⟨ret_bool ?_, rfl⟩
  all_goals (unfold printB; rw [Bool.eq_iff_iff]; simp; omega)
theorem printable_is (b : Bool) (c : UInt8) (w : World) (h : printB c.toNat = b) :
    Calls Tryd.prog 50 #[.int .u8 (c.toNat : Int)] w fun e w' => e = .returned (.bool b) ∧ w = w' := by
  have := printable_any c w; rw [h] at this; exact this

/-- what is read from a place on: the fields so far, the field in hand, whether there is one, whether inside quotes; none: it is wrong -/
def fieldsGo : List UInt8 → List (List UInt8) → List UInt8 → Bool → Bool → Option (List (List UInt8))
  | [], out, f, ins, quo => if quo then none else some (if ins then out ++ [f] else out)
  | c :: r, out, f, ins, quo =>
    if quo then
      if c.toNat = 34 then fieldsGo r out f ins false
      else if printB c.toNat then fieldsGo r out (f ++ [c]) ins true
      else none
    else if c.toNat = 34 then fieldsGo r out f true true
    else if c.toNat = 35 then some (if ins then out ++ [f] else out)
    else if c.toNat = 9 ∨ c.toNat = 32 then (if ins then fieldsGo r (out ++ [f]) [] false false else fieldsGo r out f false false)
    else if printB c.toNat then fieldsGo r out (f ++ [c]) true false
    else none
def errOf : Option (List (List UInt8)) → Int
  | none => 5
  | some _ => 0
/-- the fields of a line, and the error -/
def fieldsE (l : List UInt8) : Int := if 300 < l.length then 6 else errOf (fieldsGo l [] [] false false)
def fieldsL (l : List UInt8) : List (List UInt8) := if 300 < l.length then [] else (fieldsGo l [] [] false false).getD []

def byteV (c : UInt8) : Value := .int .u8 (c.toNat : Int)
def strV (l : List UInt8) : Value := .string (bytesOf l)

theorem info5 : (Tryd.prog.info? 5).map (fun i => (i.zero, i.size, i.bytes)) = some (some (.int .u8 0), 1, 1) := by kernel_rfl
theorem info9 : (Tryd.prog.info? 9).map (fun i => (i.zero, i.size, i.bytes)) = some (some (.string ⟨#[]⟩), 1, 16) := by kernel_rfl

theorem other_block {w : World} {b : Nat} {v u : Value} {n m : Nat} {xs ys : List Value} {s t : TypeId} (h : w.ownsRow b s 1 v n xs) (k : w.ownsRow b t 1 u m ys) (hst : s ≠ t) : v.ownBlock = none ∨ v.ownBlock ≠ u.ownBlock := by
  obtain ⟨_, h | ⟨g, cap, cur, hv, _, hg, _⟩⟩ := h
  · left; rw [h.1]; rfl
  · right
    obtain ⟨_, k | ⟨g', cap', cur', hv', _, hg', _⟩⟩ := k
    · rw [hv, k.1]; simp [Value.ownBlock]
    · rw [hv, hv']
      simp only [Value.ownBlock, ne_eq, Option.some.injEq]
      rintro rfl
      rw [hg] at hg'
      simp only [Option.some.injEq, Obj.cells.injEq] at hg'
      exact hst hg'.2.1
/-- string(b) of a row of bytes of the call's own -/
theorem convert_own {w : World} {b : Nat} {v : Value} {f : List UInt8} (h : w.ownsRow b 5 1 v f.length (f.map byteV)) :
    (convert 25 9 v).run Tryd.prog w = .ok (.string (bytesOf f)) w := by
  obtain ⟨_, h | ⟨g, cap, cur, hv, _, hg, hn, hm, hc, ht⟩⟩ := h
  · obtain ⟨rfl, h0⟩ := h
    have : f = [] := List.length_eq_zero_iff.1 h0
    subst this
    exact run_convert_bytes_nil w 25 5 Tryd.underlying25 Tryd.underlying5 0 0 9 Tryd.underlying9
  · subst hv
    refine run_convert_bytes_back w 25 9 5 ⟨g, 0, none⟩ cap f Tryd.underlying25 Tryd.underlying5 Tryd.underlying9 (fun j hj => ?_)
    have hadd : (⟨g, 0, none⟩ : Addr).add j = ⟨g, j, none⟩ := by unfold Addr.add; split <;> simp_all
    rw [hadd]
    simp only [World.cell?, hg]
    have h1 : (cur.toList.take (f.length * 1))[j]? = (f.map byteV)[j]? := by rw [ht]
    rw [List.getElem?_take_of_lt (by omega), List.getElem?_map, List.getElem?_eq_getElem hj] at h1
    simpa [byteV] using h1

/-- what Fields hands back, by what fieldsGo says -/
def FieldsPost (R : Option (List (List UInt8))) (w : World) (e : Ending) (w' : World) : Prop :=
  ∃ v : Value, e = .returned (.tuple #[v, .int .i64 (errOf R)]) ∧ w'.ownsRow w.heap.size 9 1 v (R.getD []).length ((R.getD []).map strV) ∧ Below w.heap.size w w'
theorem post_none {w w' : World} (hB : Below w.heap.size w w') : FieldsPost none w (.returned (.tuple #[.slice none 0 0, .int .i64 5])) w' :=
  ⟨_, rfl, World.ownsRow_nil _ _ _ _, hB⟩
theorem post_some {w w' : World} {v : Value} {R : Option (List (List UInt8))} (L : List (List UInt8)) (hR : R = some L) (h : w'.ownsRow w.heap.size 9 1 v L.length (L.map strV)) (hB : Below w.heap.size w w') :
    FieldsPost R w (.returned (.tuple #[v, .int .i64 0])) w' := by
  subst hR
  exact ⟨v, rfl, h, hB⟩

/-- the state of the loop at a byte -/
structure AtByte (s : ByteArray) (R : Option (List (List UInt8))) (k : Nat) (out : List (List UInt8)) (f : List UInt8) (ins quo : Bool) (v4 v5 : Value) (w wr : World) : Prop where
  rest : fieldsGo (s.data.toList.drop k) out f ins quo = R
  outs : wr.ownsRow w.heap.size 9 1 v4 out.length (out.map strV)
  field : wr.ownsRow w.heap.size 5 1 v5 f.length (f.map byteV)
  few : out.length ≤ k
  short : f.length ≤ k
  below : Below w.heap.size w wr
theorem drop_at (s : ByteArray) (k : Nat) (h : k < s.size) : s.data.toList.drop k = s[k] :: s.data.toList.drop (k + 1) := by
  rw [← List.getElem_cons_drop (i := k) (h := by rw [len_eq]; exact h)]; rfl
theorem drop_end (s : ByteArray) (k : Nat) (h : s.size ≤ k) : s.data.toList.drop k = [] := List.drop_of_length_le (by rw [len_eq]; exact h)
theorem AtByte.same {s : ByteArray} {R : Option (List (List UInt8))} {k : Nat} {out : List (List UInt8)} {f : List UInt8} {ins quo ins' quo' : Bool} {v4 v5 : Value} {w wr : World} (h : AtByte s R k out f ins quo v4 v5 w wr)
    (hr : fieldsGo (s.data.toList.drop (k + 1)) out f ins' quo' = R) : AtByte s R (k + 1) out f ins' quo' v4 v5 w wr :=
  ⟨hr, h.outs, h.field, by have := h.few; omega, by have := h.short; omega, h.below⟩
/-- a byte has been appended to the field -/
theorem AtByte.byte {s : ByteArray} {R : Option (List (List UInt8))} {k : Nat} {out : List (List UInt8)} {f : List UInt8} {ins quo ins' quo' : Bool} {v4 v5 v' : Value} {w wr w1 : World} {o : Obj} (c : UInt8) (h : AtByte s R k out f ins quo v4 v5 w wr)
    (hr : fieldsGo (s.data.toList.drop (k + 1)) out (f ++ [c]) ins' quo' = R) (hown : w1.ownsRow w.heap.size 5 1 v' (f.length + 1) (f.map byteV ++ [byteV c])) (hg : (wr.alloc o).grownBy w1 v5.ownBlock) :
    AtByte s R (k + 1) out (f ++ [c]) ins' quo' v4 v' w w1 := by
  have hz := h.below.size
  refine ⟨hr, (h.outs.alloc o).kept hg (other_block (h.outs.alloc o) (h.field.alloc o) (by decide)), by simpa using hown, by have := h.few; omega, by have := h.short; simp; omega, ?_⟩
  exact (h.below.alloc hz o).grown hg (by simp; omega) (fun b hb => ((h.field.alloc o).lt b hb).1)
/-- the field has been appended to the fields -/
theorem AtByte.flush {s : ByteArray} {R : Option (List (List UInt8))} {k : Nat} {out : List (List UInt8)} {f : List UInt8} {ins quo ins' quo' : Bool} {v4 v5 v' : Value} {w wr w1 : World} {o : Obj} (h : AtByte s R k out f ins quo v4 v5 w wr)
    (hr : fieldsGo (s.data.toList.drop (k + 1)) (out ++ [f]) [] ins' quo' = R) (hown : w1.ownsRow w.heap.size 9 1 v' (out.length + 1) (out.map strV ++ [strV f])) (hg : (wr.alloc o).grownBy w1 v4.ownBlock) :
    AtByte s R (k + 1) (out ++ [f]) [] ins' quo' v' (.slice none 0 0) w w1 := by
  have hz := h.below.size
  refine ⟨hr, by simpa using hown, World.ownsRow_nil _ _ _ _, by have := h.few; simp; omega, by simp, ?_⟩
  exact (h.below.alloc hz o).grown hg (by simp; omega) (fun b hb => ((h.outs.alloc o).lt b hb).1)
theorem AtByte.last {s : ByteArray} {R : Option (List (List UInt8))} {k : Nat} {out : List (List UInt8)} {f : List UInt8} {ins quo : Bool} {v4 v5 v' : Value} {w wr w1 : World} {o : Obj} (h : AtByte s R k out f ins quo v4 v5 w wr)
    (hown : w1.ownsRow w.heap.size 9 1 v' (out.length + 1) (out.map strV ++ [strV f])) (hg : (wr.alloc o).grownBy w1 v4.ownBlock) :
    w1.ownsRow w.heap.size 9 1 v' (out ++ [f]).length ((out ++ [f]).map strV) ∧ Below w.heap.size w w1 := by
  have hz := h.below.size
  exact ⟨by simpa using hown, (h.below.alloc hz o).grown hg (by simp; omega) (fun b hb => ((h.outs.alloc o).lt b hb).1)⟩
end Go.Proofs.YticmkjcaekhgpaaDoor.Lex
