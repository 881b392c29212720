/- strings.SplitSeq: what its iterator yields. -/
import Derived.Test.YtdeompnaojiajaaDoorShelf
import Derived.Test.YtdeompnaojiajaaDoorNzP
import Derived.Test.YtdeompnaojiajaaDoorNzR
import Derived.Test.YtdeompnaojiajaaDoorNzO
namespace Go.Proofs.YtdeompnaojiajaaDoor
open Go.RowKit Go.Shelf
attribute [local go_sem] Oper.semAt_some

def Kept3 (bp bs bv : Nat) (W W' : World) : Prop := W'.heap[bp]? = W.heap[bp]? ∧ W'.heap[bs]? = W.heap[bs]? ∧ W'.heap[bv]? = W.heap[bv]?
def StoreAt (bs : Nat) (W W' : World) : Prop := ∃ v : Value, W' = W.setCell ⟨bs, 0, none⟩ v
abbrev Piece := { x : ByteArray // x.size ≤ maxLen }
def lists (xs : List Piece) : List (List UInt8) := xs.map (fun x => x.1.data.toList)

theorem cell_of_heap {w : World} {b : Nat} {v : Value} {t : TypeId} (h : w.heap[b]? = some (.cells #[v] t (0, 0))) : w.cell? ⟨b, 0, none⟩ = some v := by simp [World.cell?, h]
theorem froz_of_heap {w : World} {b : Nat} {v : Value} {t : TypeId} (h : w.heap[b]? = some (.cells #[v] t (0, 0))) : w.frozen? ⟨b, 0, none⟩ = false := by simp [World.frozen?, h]

theorem index1_no (s : ByteArray) (c : UInt8) (w : World) (h : Lib.indexByte s.data.toList c < 0) :
    Calls Tryd.prog 68 #[.string s, .string ⟨#[c]⟩] w fun e w' => e = .returned (.int .i64 (-1)) ∧ w = w' :=
  (Tryd.strings_Index_one s c w).mono fun _ _ ⟨he, hw⟩ => ⟨by rw [he, show Lib.indexByte s.data.toList c = -1 by have := Lib.indexByte_ge s.data.toList c; omega], hw.symm⟩
theorem index1_yes (s : ByteArray) (c : UInt8) (w : World) (i : Nat) (h : Lib.indexByte s.data.toList c = i) :
    Calls Tryd.prog 68 #[.string s, .string ⟨#[c]⟩] w fun e w' => e = .returned (.int .i64 i) ∧ w = w' :=
  (Tryd.strings_Index_one s c w).mono fun _ _ ⟨he, hw⟩ => ⟨by rw [he, h], hw.symm⟩

/-- how long the rest is that lies in the captured variable -/
def leftIn (b : Nat) (w : World) : Nat := match w.cell? ⟨b, 0, none⟩ with
  | some (.string x) => x.size
  | _ => 0
theorem leftIn_eq {b : Nat} {w : World} {x : ByteArray} (h : w.cell? ⟨b, 0, none⟩ = some (.string x)) : leftIn b w = x.size := by unfold leftIn; rw [h]
theorem lists_snoc (pre : List Piece) (x : Piece) : lists (pre ++ [x]) = lists pre ++ [x.1.data.toList] := by simp [lists]
theorem ext_take (r : ByteArray) (i : Nat) : (r.extract 0 i).data.toList = r.data.toList.take i := by simp [ByteArray.data_extract]
theorem ext_drop (r : ByteArray) (i : Nat) : (r.extract i r.size).data.toList = r.data.toList.drop i := by
  rw [ByteArray.data_extract, Array.toList_extract, List.extract_eq_take_drop]
  exact List.take_of_length_le (by rw [List.length_drop, len_eq]; exact Nat.le_refl _)

set_option maxHeartbeats 1000000 in
theorem splitSeq_steps (n : Nat) (hn : 1 ≤ n) (bp bs bv : Nat) (hd1 : bp ≠ bs) (hd2 : bv ≠ bs) (c : UInt8) (s : ByteArray) (hlen : s.size ≤ maxLen) (w : World)
    (hp : w.heap[bp]? = some (.cells #[.string ⟨#[c]⟩] 9)) (hs : w.heap[bs]? = some (.cells #[.string s] 9)) (hv : w.heap[bv]? = some (.cells #[.int .i64 0] 3)) :
    SeqSteps Fence.wide n Tryd.prog 66 #[.pointer (some ⟨bp, 0, none⟩), .pointer (some ⟨bs, 0, none⟩), .pointer (some ⟨bv, 0, none⟩)] (fun x : Piece => #[.string x.1]) (Kept3 bp bs bv) (StoreAt bs)
      (fun xs => lists xs = splitB c s.data.toList) (fun xs => ∃ r, lists xs ++ r = splitB c s.data.toList) (splitB c s.data.toList).length w := by
  intro l J Jx W hW hJ hJx hSJ hSJx hY h0
  have lt : ∀ {b : Nat} {o : Obj}, w.heap[b]? = some o → b < w.heap.size := fun h => (Array.getElem?_eq_some_iff.1 h).1
  have hpW := (hW.block bp (lt hp)).trans hp
  have hsW := (hW.block bs (lt hs)).trans hs
  have hvW := (hW.block bv (lt hv)).trans hv
  clear hp hs hv hW
  have cp := cell_of_heap hpW
  have cs := cell_of_heap hsW
  have cv := cell_of_heap hvW
  unfold maxLen at hlen
  have H := Lib.hid (And.intro hpW (And.intro hsW hvW))
  clear hpW hsW hvW
  refine callsIn_of_wp Tryd.func66 rfl trivial ?_ rfl
  simp only [Tryd.ntmps66, List.size_toArray, List.length_cons, List.length_nil, Nat.reduceAdd, Nat.reduceSub, Array.replicate_succ, Array.replicate_zero, List.push_toArray, List.append_toArray, List.nil_append, List.cons_append]
  gi_wp2
  gi_loopw [7] (fun _ wr => ∃ (pre : List Piece) (r : ByteArray), r.size ≤ 2 ^ 63 - 1 ∧ lists pre ++ splitB c r.data.toList = splitB c s.data.toList ∧ J pre wr ∧
      wr.heap[bp]? = some (.cells #[.string ⟨#[c]⟩] 9) ∧ wr.heap[bs]? = some (.cells #[.string r] 9) ∧ wr.heap[bv]? = some (.cells #[.int .i64 0] 3)) (fun _ wr => leftIn bs wr)
  case atStart => exact ⟨[], s, hlen, rfl, h0, H.out.1, H.out.2.1, H.out.2.2⟩
  case round =>
    obtain ⟨pre, r, hr, hpre, hJp, hp, hs, hv⟩ := hrel
    have cp := cell_of_heap hp
    have cs := cell_of_heap hs
    have cv := cell_of_heap hv
    have fs := froz_of_heap hs
    have hleft := leftIn_eq cs
    have HL := Lib.hid hleft
    have HP := Lib.hid (And.intro hp (And.intro hs hv))
    have HE := Lib.hid hpre
    clear hp hs hv hpre hleft
    by_cases hi : Lib.indexByte r.data.toList c < 0
    · have hsp := splitB_none c _ hi
      have hln : pre.length < (splitB c s.data.toList).length := by rw [← HE.out, hsp]; simp [lists]
      obtain ⟨fn, tmps, assign, body, hy, hR⟩ := hY pre ⟨r, hr⟩ wr hJp hln
      dsimp only at hy
      have HS := Lib.hid hsp
      clear hsp
      gi_wp2_with (refine ⟨trivial, ?_⟩; gi_at_call 68; refine (callsIn_wide.2 (index1_no r c wr hi)).mono ?_; rintro e w' ⟨rfl, rfl⟩)
      refine hR.mono ?_
      rintro e W3 (⟨rfl, hJ3, hk3⟩ | ⟨rfl, hJx3⟩)
      · gi_wp2
        go_end0
        exact ⟨⟨_, rfl⟩, .inl ⟨pre ++ [⟨r, hr⟩], by rw [lists_snoc, ← HE.out, HS.out], hJ3⟩⟩
      · gi_wp2
        go_end0
        exact ⟨⟨_, rfl⟩, .inr ⟨pre ++ [⟨r, hr⟩], ⟨[], by rw [lists_snoc, ← HE.out, HS.out, List.append_nil]⟩, hJx3⟩⟩
    · have hge := Lib.indexByte_ge r.data.toList c
      obtain ⟨i, hi'⟩ : ∃ i : Nat, Lib.indexByte r.data.toList c = i := ⟨(Lib.indexByte r.data.toList c).toNat, by omega⟩
      clear hi hge
      obtain ⟨hil, hsp⟩ := splitB_some c _ i hi'
      rw [len_eq] at hil
      have hln : pre.length < (splitB c s.data.toList).length := by rw [← HE.out, hsp]; simp [lists]
      obtain ⟨fn, tmps, assign, body, hy, hR⟩ := hY pre ⟨r.extract 0 i, by unfold maxLen; simp; omega⟩ wr hJp hln
      dsimp only at hy
      have HS := Lib.hid hsp
      have HI := Lib.hid hi'
      clear hsp hi'
      gi_wp2_with (refine ⟨trivial, ?_⟩; gi_at_call 68; refine (callsIn_wide.2 (index1_yes r c wr i HI.out)).mono ?_; rintro e w' ⟨rfl, rfl⟩)
      refine hR.mono ?_
      rintro e W3 (⟨rfl, hJ3, hk3⟩ | ⟨rfl, hJx3⟩)
      · have hp3 := hk3.1.trans HP.out.1
        have hs3 := hk3.2.1.trans HP.out.2.1
        have hv3 := hk3.2.2.trans HP.out.2.2
        have cp3 := cell_of_heap hp3
        have cs3 := cell_of_heap hs3
        have cv3 := cell_of_heap hv3
        have fs3 := froz_of_heap hs3
        have HP3 := Lib.hid (And.intro hp3 (And.intro hs3 hv3))
        clear hp3 hs3 hv3
        gi_wp2
        go_roundw
        case rel =>
          refine ⟨pre ++ [⟨r.extract 0 i, _⟩], r.extract (i + 1) r.size, by simp; omega, ?_, hSJ _ _ _ hJ3 ⟨_, rfl⟩, ?_, ?_, ?_⟩
          · rw [lists_snoc, ext_take, ext_drop, ← HE.out, HS.out, List.append_assoc]; rfl
          · rw [heap_setCell_other _ _ _ _ (by simpa using hd1)]; exact HP3.out.1
          · exact heap_setCell_same _ _ _ _ _ _ HP3.out.2.1
          · rw [heap_setCell_other _ _ _ _ (by simpa using hd2)]; exact HP3.out.2.2
        case measure =>
          rw [HL.out, leftIn_eq (x := r.extract (i + 1) r.size) (cell_of_heap (heap_setCell_same _ _ _ _ _ _ HP3.out.2.1))]
          simp
          omega
      · gi_wp2
        refine bodyPost_ret (results_none rfl _ _ _) rfl ?_
        exact ⟨⟨_, rfl⟩, .inr ⟨pre ++ [⟨r.extract 0 i, _⟩], ⟨splitB c (r.data.toList.drop (i + 1)), by rw [lists_snoc, ext_take, ← HE.out, HS.out, List.append_assoc]; rfl⟩, hJx3⟩⟩
end Go.Proofs.YtdeompnaojiajaaDoor
