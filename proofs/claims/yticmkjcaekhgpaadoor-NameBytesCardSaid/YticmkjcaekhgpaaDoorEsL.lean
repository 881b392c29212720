/- The map of the law NameBytes: how it is made, and how it is ranged over. -/
import Derived.Test.YticmkjcaekhgpaaDoorBytesL
import Derived.Maps.RangeRun
import Derived.Maps.RangeWalk
import Derived.WideMake
namespace Go.Proofs.YticmkjcaekhgpaaDoor
open Go.ChangeShapes Go.WideShapes Go.ChangeAt Go.RowKit
open Go.ChangeMaps (setBlock)

theorem run_update_new (w : World) (mty kt et : TypeId) (r clock : Nat) (es : Array MapEntry) (k : Int) (val : Value) (hm : Tryd.prog.underlying mty = some (.map kt et)) (hk : Tryd.prog.underlying kt = some (.int .i64)) (hb : w.heap[r]? = some (.map es clock))
    (hf : Instr.findNow (.int .i64) (.int .i64 k) es.toList 0 = some none) :
    (Instr.mapUpdate mty (.map (some r)) (.int .i64 k) val).run Tryd.prog w = .ok () (setBlock w r (.map (es.push { key := .int .i64 k, val := val, born := clock }) (clock + 1))) := by
  have hc : (Instr.checkKey false 10000 kt (.int .i64 k)).run Tryd.prog w = .ok () w := MapKept.run_checkKey (k := .int .i64 k) hk (by simp [MapKept.IsKey]) false 9999
  simp [Instr.mapUpdate, run_underlying hm, MapKept.run_getObj_map hb, hc, MapKept.run_findKey hk hf, MapKept.run_setObj_map _ hb, Result.andThen, setBlock]
theorem setBlock_alloc (w : World) (o o' : Obj) : setBlock (w.alloc o) w.heap.size o' = w.alloc o' := by
  have e : (w.heap.push o).setIfInBounds w.heap.size o' = w.heap.push o' := by
    apply Array.ext
    · simp
    · intro i h1 h2
      rw [Array.getElem_setIfInBounds (by simpa using h2)]
      by_cases h : w.heap.size = i
      · subst h; simp
      · rw [if_neg h, Array.getElem_push_lt (by simp at h2; omega), Array.getElem_push_lt (by simp at h2; omega)]
  show ({ (w.alloc o) with heap := (w.heap.push o).setIfInBounds w.heap.size o' } : World) = _
  rw [e]; rfl

/-- an entry has come -/
def Came (es : Array MapEntry) (seen : Array Nat) (e : MapEntry) (w w1 : World) : Prop := e ∈ (leftOf es seen).toList ∧ (w1 = w ∨ w1 = w.drew)
section
variable {H : Type} {P : Program} (w : World) {ops : Array Oper} {rest : List Oper} {o : Oper} {a : Act} {Q : Exit → Act → World → Prop}
theorem wpList_next_es (hg : o.guard = none) (it : Operand) (hop : o.op = Op.next it false) (b r since c0 clock : Nat) (es : Array MapEntry) (seen : Array Nat)
    (hit : a.eval it = .pointer (some ⟨r, 0, none⟩)) (hr : w.heap[r]? = some (.mapIter (some b) since seen c0)) (hb : w.heap[b]? = some (.map es clock)) (hold : ∀ x ∈ es.toList, x.born < since) (hsc : since ≤ c0)
    (hDone : (leftOf es seen).size = 0 → wpList P ops Q rest (a.put o.dst (.tuple #[.bool false])) w)
    (hMore : ∀ e w1, Came es seen e w w1 → wpList P ops Q rest (a.put o.dst (.tuple #[.bool true, e.key, e.val])) (setBlock w1 r (.mapIter (some b) since (seen.push e.born) clock))) :
    wpList P ops Q (o :: rest) a w := by
  refine wpList_plain hg fun K' hK' => ?_
  unfold Oper.wp
  rcases run_next_at (P := P) w o.type r b since c0 seen es clock hr hb hold hsc with ⟨h0, hrun⟩ | ⟨e, he, w1, hal, hrun⟩
  · simp [execOp, hop, hit, hrun, Result.andThen]
    exact hK' _ _ (hDone h0)
  · simp [execOp, hop, hit, hrun, Result.andThen]
    exact hK' _ _ (hMore e w1 ⟨he, hal⟩)
end
/-- how many entries an iterator has still to hand out -/
def leftEs (r : Nat) (es : Array MapEntry) (w : World) : Nat := match w.heap[r]? with
  | some (.mapIter _ _ seen _) => (leftOf es seen).size
  | _ => 0
theorem leftEs_at {r : Nat} {es : Array MapEntry} {w : World} {m : Option Nat} {s c : Nat} {seen : Array Nat} (h : w.heap[r]? = some (.mapIter m s seen c)) : leftEs r es w = (leftOf es seen).size := by
  unfold leftEs; rw [h]
theorem left_less {es : Array MapEntry} {seen : Array Nat} {e : MapEntry} (h : e ∈ (leftOf es seen).toList) : (leftOf es (seen.push e.born)).size < (leftOf es seen).size := by
  unfold leftOf at *
  have q : ∀ p : MapEntry → Bool, (es.filter p).size = (es.toList.filter p).length := fun p => by rw [← Array.length_toList, Array.toList_filter]
  rw [q, q]
  rw [Array.toList_filter] at h
  have e1 : (es.toList.filter fun x => !(seen.push e.born).contains x.born) = (es.toList.filter fun x => !seen.contains x.born).filter fun x => !(x.born == e.born) := by
    rw [List.filter_filter]
    congr 1
    funext x
    rw [Bool.eq_iff_iff]
    simp [and_comm]
  rw [e1]
  have hlt := List.length_filter_lt_length_iff_exists (p := fun x : MapEntry => !(x.born == e.born)) (l := es.toList.filter fun x => !seen.contains x.born)
  exact hlt.2 ⟨e, h, by simp⟩
/-- the map of the law: lengths, and what tells names of them -/
def es3 : Array MapEntry := #[{ key := .int .i64 4, val := .func (.func 17) #[] #[], born := 0 }, { key := .int .i64 6, val := .func (.func 19) #[] #[], born := 1 }, { key := .int .i64 30, val := .func (.func 15) #[] #[], born := 2 }]
theorem upd1 (w : World) : (Instr.mapUpdate 27 (.map (some w.heap.size)) (.int .i64 4) (.func (.func 17) #[] #[])).run Tryd.prog (w.alloc (.map #[] 0)) = .ok () (w.alloc (.map #[es3[0]] 1)) := by
  rw [run_update_new _ 27 3 23 _ 0 #[] 4 _ Tryd.underlying27 Tryd.underlying3 (heap_alloc_at rfl) (by kernel_rfl), setBlock_alloc]
  rfl
theorem upd2 (w : World) : (Instr.mapUpdate 27 (.map (some w.heap.size)) (.int .i64 6) (.func (.func 19) #[] #[])).run Tryd.prog (w.alloc (.map #[es3[0]] 1)) = .ok () (w.alloc (.map #[es3[0], es3[1]] 2)) := by
  rw [run_update_new _ 27 3 23 _ 1 #[es3[0]] 6 _ Tryd.underlying27 Tryd.underlying3 (heap_alloc_at rfl) (by kernel_rfl), setBlock_alloc]
  rfl
theorem upd3 (w : World) : (Instr.mapUpdate 27 (.map (some w.heap.size)) (.int .i64 30) (.func (.func 15) #[] #[])).run Tryd.prog (w.alloc (.map #[es3[0], es3[1]] 2)) = .ok () (w.alloc (.map es3 3)) := by
  rw [run_update_new _ 27 3 23 _ 2 #[es3[0], es3[1]] 30 _ Tryd.underlying27 Tryd.underlying3 (heap_alloc_at rfl) (by kernel_rfl), setBlock_alloc]
  rfl
theorem rng3 (w : World) : (Instr.range 27 (.map (some w.heap.size))).run Tryd.prog (w.alloc (.map es3 3)) = .ok (.pointer (some ⟨w.heap.size + 1, 0, none⟩)) ((w.alloc (.map es3 3)).alloc (.mapIter (some w.heap.size) 3 #[] 3)) := by
  rw [run_range_map (w.alloc (.map es3 3)) 27 3 23 w.heap.size es3 3 Tryd.underlying27 (heap_alloc_at rfl)]
  simp
theorem es3_mem {e : MapEntry} (h : e ∈ es3.toList) : e = es3[0] ∨ e = es3[1] ∨ e = es3[2] := by
  simp [es3] at h
  exact h
theorem es3_old : ∀ x ∈ es3.toList, x.born < 3 := by
  intro x hx
  rcases es3_mem hx with rfl | rfl | rfl <;> decide
theorem es3_nodup : (es3.toList.map (·.born)).Nodup := by decide
theorem setBlock_at {w : World} {r : Nat} {o : Obj} (h : w.heap[r]? = some o) (o' : Obj) : (setBlock w r o').heap[r]? = some o' := by
  have hl := (Array.getElem?_eq_some_iff.1 h).1
  unfold setBlock
  simp [hl]
theorem setBlock_other {w : World} {r b : Nat} (hne : r ≠ b) (o' : Obj) : (setBlock w r o').heap[b]? = w.heap[b]? := by
  unfold setBlock
  simp [hne]
theorem setBlock_size (w : World) (r : Nat) (o' : Obj) : (setBlock w r o').heap.size = w.heap.size := by
  unfold setBlock; simp
theorem setBlock_below {B r : Nat} {w0 w : World} (h : Below B w0 w) (hr : B ≤ r) (o' : Obj) : Below B w0 (setBlock w r o') :=
  ⟨h.os, h.tape, h.output, by rw [setBlock_size]; exact h.size, fun i hi => by rw [setBlock_other (by omega)]; exact h.block i hi⟩
theorem drew_or {w w1 : World} (h : w1 = w ∨ w1 = w.drew) : w1.heap = w.heap := by rcases h with rfl | rfl <;> rfl
theorem drew_below {B : Nat} {w0 w w1 : World} (hB : Below B w0 w) (h : w1 = w ∨ w1 = w.drew) : Below B w0 w1 := by
  rcases h with rfl | rfl
  · exact hB
  · exact hB.drew
theorem mem_leftOf {es : Array MapEntry} {seen : Array Nat} {e : MapEntry} (h : e ∈ (leftOf es seen).toList) : e ∈ es.toList := by
  unfold leftOf at h
  rw [Array.toList_filter] at h
  exact (List.mem_filter.1 h).1
/-- what the law asks of one entry: a length, a function, and what it tells -/
def RowOk (C : List UInt8) (d : UInt8) (v : Value) (n : Nat) (f : Nat) : Prop := v = .func (.func f) #[] #[] ∧ 3 ≤ n ∧ n ≤ 30 ∧ ∃ p, Tells f p ∧ p (lettersOf C 3 n) = true ∧
    ∀ i, i < (lettersOf C 3 n).length → p ((lettersOf C 3 n).take i ++ d :: (lettersOf C 3 n).drop (i + 1)) = fineB d.toNat (decide (n = 30)) (decide (0 < i))
theorem lett3 (C : List UInt8) (n : Nat) (h : 3 ≤ n) : 3 ≤ (lettersOf C 3 n).length ∧ (lettersOf C 3 n).length ≤ n := by
  rw [lettersOf_length]; unfold lettN; omega
theorem row_ok (C : List UInt8) (d : UInt8) {e : MapEntry} (h : e ∈ es3.toList) : ∃ n f : Nat, e.key = .int .i64 (n : Int) ∧ RowOk C d e.val n f := by
  rcases es3_mem h with rfl | rfl | rfl
  · have hl := lettersOf_let C 3 4
    obtain ⟨h1, h2⟩ := lett3 C 4 (by omega)
    refine ⟨4, 17, rfl, rfl, by omega, by omega, letterOk, tells17, ?_, fun i hi => ?_⟩
    · rw [letter_letters hl]; simp; omega
    · rw [letter_other hl i hi d h2]; unfold fineB; simp
  · have hl := lettersOf_let C 3 6
    obtain ⟨h1, h2⟩ := lett3 C 6 (by omega)
    refine ⟨6, 19, rfl, rfl, by omega, by omega, abbrOk, tells19, ?_, fun i hi => ?_⟩
    · rw [abbr_letters hl]; simp; omega
    · rw [abbr_other hl i hi d h1 h2]; unfold fineB; simp
  · have hl := lettersOf_let C 3 30
    obtain ⟨h1, h2⟩ := lett3 C 30 (by omega)
    refine ⟨30, 15, rfl, rfl, by omega, by omega, setOk, tells15, ?_, fun i hi => ?_⟩
    · rw [set_letters hl]; simp; omega
    · rw [set_other hl i hi d h2]; rfl
theorem letters_w (L : List UInt8) (a : Option Addr) (cap n : Nat) (hn : n ≤ 30) (hL : L.length ≤ maxLen) (z : ByteArray) (hz : bytesOf (lettersOf L 3 n) = z) (W : World) (hB : BytesAt W a L) :
    Calls Tryd.prog 22 #[.slice a L.length cap, .int .i64 3, .int .i64 n] W fun e w' => e = .returned (.string z) ∧ W = w' := by
  refine (letters22 L a cap 3 n (by omega) (by omega) hL W hB).mono ?_
  rintro e w' ⟨o, rfl, ho, rfl⟩
  refine ⟨?_, rfl⟩
  rw [← hz, ← ho]; rfl
theorem tells_at {f : Nat} {p : List UInt8 → Bool} (hT : Tells f p) (s : ByteArray) (w : World) (hs : s.size ≤ maxLen) {b : Bool} (hb : p s.data.toList = b) :
    Calls Tryd.prog f #[.string s] w fun e w' => e = .returned (.bool b) ∧ Below w.heap.size w w' := by
  rw [← hb]; exact hT.2 s w hs
end Go.Proofs.YticmkjcaekhgpaaDoor
