/- A region that draws its order, whose operations each have a slot of their own and may be GUARDED by slots whose value is certain: what the slots hold at the end, whatever the order. No program in sight. Walks over drafts of chapter 40: their tables in memory. -/
import Derived.Test.YtkpmmabdpeobaaaGreatDoorSU26
import Derived.Below
import Derived.Test.YtkpmmabdpeobaaaGreatDoorSV4
import Derived.Test.YtkpmmabdpeobaaaGreatDoorSU39
import Derived.Test.YtkpmmabdpeobaaaGreatDoorSU31
import Derived.Test.YtkpmmabdpeobaaaGreatDoorSU28
import Derived.Test.YtkpmmabdpeobaaaGreatDoorSU25
namespace Go.Proofs.YtkpmmabdpeobaaaGreatDoor.Pg
open Px
open Go.RowKit
section
variable {P : Program} {ops : Array Oper} {Q : Exit → Act → World → Prop} {md : Region.Mode}
def dstsOf (ops : Array Oper) : List Nat := ops.toList.filterMap (·.dst)
def guardOk (ops : Array Oper) (o : Oper) : Bool := match o.guard with | none => true | some (j, _) => o.after.any (fun e => e.on == j && Region.binds .any e) && ((ops[j]?).bind (·.dst)).isSome
def slotsOk (ops : Array Oper) (n : Nat) : Bool :=
 (List.range ops.size).all (fun i => match ops[i]? with | some o => (match o.dst with | some d => decide (d < n) | none => false) && guardOk ops o && o.after.all (fun e => decide (e.on < i)) | none => true) &&
 decide ((ops.toList.map (·.dst)).Nodup)
structure RI (w0 : World) (a0 : Act) (ops : Array Oper) (S : Nat → World → Value → Prop) (listed : Array Bool) (a : Act) (w : World) : Prop where
 below : Below w0.heap.size w0 w
 defers : a.defers = a0.defers
 size : a.tmps.size = a0.tmps.size
 old : ∀ t, (dstsOf ops).contains t = false → a.tmps[t]?.getD undef = a0.tmps[t]?.getD undef
 got : ∀ (i : Nat) (o : Oper) (d : Nat), ops[i]? = some o → o.dst = some d → listed.getD i false = true → S d w (a.tmps[d]?.getD undef)
theorem slots_op {n : Nat} (h : slotsOk ops n = true) {i : Nat} {o : Oper} (ho : ops[i]? = some o) : (∃ d, o.dst = some d ∧ d < n) ∧ guardOk ops o = true ∧ ∀ e ∈ o.after, e.on < i := by
 unfold slotsOk at h
 rw [Bool.and_eq_true] at h
 have hi : i < ops.size := (Array.getElem?_eq_some_iff.1 ho).1
 have h1 := List.all_eq_true.1 h.1 i (List.mem_range.2 hi)
 rw [ho] at h1
 simp only [Bool.and_eq_true, Array.all_eq_true_iff_forall_mem, decide_eq_true_eq] at h1
 obtain ⟨⟨h2, h3⟩, h4⟩ := h1
 refine ⟨?_, h3, h4⟩
 cases hd : o.dst with
 | none => rw [hd] at h2; cases h2
 | some d => rw [hd] at h2; exact ⟨d, rfl, by simpa using h2⟩
theorem slots_ne {n : Nat} (h : slotsOk ops n = true) {i j : Nat} {o o' : Oper} {d : Nat} (ho : ops[i]? = some o) (ho' : ops[j]? = some o') (hd : o.dst = some d) (hd' : o'.dst = some d) : i = j := by
 unfold slotsOk at h
 rw [Bool.and_eq_true] at h
 have hn := of_decide_eq_true h.2
 have e1 : (ops.toList.map (·.dst))[i]? = some (some d) := by rw [List.getElem?_map, Array.getElem?_toList, ho, Option.map_some, hd]
 have e2 : (ops.toList.map (·.dst))[j]? = some (some d) := by rw [List.getElem?_map, Array.getElem?_toList, ho', Option.map_some, hd']
 have l1 := (List.getElem?_eq_some_iff.1 e1)
 have l2 := (List.getElem?_eq_some_iff.1 e2)
 obtain ⟨b1, c1⟩ := l1
 obtain ⟨b2, c2⟩ := l2
 exact (List.getElem_inj hn).1 (c1.trans c2.symm)
theorem dst_mem {i : Nat} {o : Oper} {d : Nat} (ho : ops[i]? = some o) (hd : o.dst = some d) : (dstsOf ops).contains d = true := by
 unfold dstsOf
 rw [List.contains_eq_mem]
 exact decide_eq_true (List.mem_filterMap.2 ⟨o, Array.mem_toList_iff.2 (Array.mem_of_getElem? ho), hd⟩)
theorem mem_dst {d : Nat} (h : (dstsOf ops).contains d = true) : ∃ (i : Nat) (o : Oper), ops[i]? = some o ∧ o.dst = some d := by
 unfold dstsOf at h
 rw [List.contains_eq_mem] at h
 obtain ⟨o, ho, hd⟩ := List.mem_filterMap.1 (of_decide_eq_true h)
 obtain ⟨i, hi, e⟩ := List.getElem_of_mem ho
 refine ⟨i, o, ?_, hd⟩
 rw [← Array.getElem?_toList, List.getElem?_eq_getElem hi, e]
theorem RI.put {w0 : World} {a0 : Act} {S : Nat → World → Value → Prop} {listed : Array Bool} {a : Act} {w w' : World} (h : RI w0 a0 ops S listed a w) (hok : slotsOk ops a0.tmps.size = true)
 (mono : ∀ d w w' v, S d w v → Below w.heap.size w w' → S d w' v) {i : Nat} {o : Oper} {d : Nat} (ho : ops[i]? = some o) (hd : o.dst = some d) {v : Value} (hB : Below w.heap.size w w') (hv : S d w' v) :
 RI w0 a0 ops S (listed.setIfInBounds i true) (a.put (some d) v) w' := by
 have hdn : d < a.tmps.size := by
  obtain ⟨⟨d', e, hlt⟩, _⟩ := slots_op hok ho
  rw [hd] at e
  cases e
  rw [h.size]
  exact hlt
 refine ⟨h.below.trans (hB.mono h.below.size), h.defers, by simp [Act.put, h.size], fun t ht => ?_, fun j o' d' ho' hd' hj => ?_⟩
 · have hne : d ≠ t := fun e => by rw [← e, dst_mem ho hd] at ht; cases ht
   show (a.tmps.setIfInBounds d v)[t]?.getD undef = _
   rw [Array.getElem?_setIfInBounds_ne hne]
   exact h.old t ht
 · show S d' w' ((a.tmps.setIfInBounds d v)[d']?.getD undef)
   by_cases hij : i = j
   · subst hij
     rw [ho] at ho'
     cases ho'
     rw [hd] at hd'
     cases hd'
     rw [Array.getElem?_setIfInBounds_self_of_lt hdn]
     exact hv
   · have hne : d ≠ d' := fun e => hij (slots_ne hok ho ho' hd (by rw [e]; exact hd'))
     rw [Array.getElem?_setIfInBounds_ne hne]
     refine mono _ _ _ _ (h.got j o' d' ho' hd' ?_) hB
     rwa [getD_set_ne false hij] at hj
theorem wp_region_slots {id : Nat} {a0 : Act} {w0 : World} (hm : P.follows .mixedOrders = true) (S : Nat → World → Value → Prop) (hok : slotsOk ops a0.tmps.size = true) (hG : ∀ (i : Nat) (o : Oper) (j : Nat) (b : Bool) (d : Nat), ops[i]? = some o → o.guard = some (j, b) → (ops[j]?).bind (·.dst) = some d → ∀ w v, S d w v → v = .bool b)
 (mono : ∀ d w w' v, S d w v → Below w.heap.size w w' → S d w' v)
 (step : ∀ (i : Nat) (o : Oper) (d : Nat), ops[i]? = some o → o.dst = some d → ∀ (T : Array Value) (D : List Deferred) (w : World), Below w0.heap.size w0 w →
  (∀ t, (dstsOf ops).contains t = false → T[t]?.getD undef = a0.tmps[t]?.getD undef) →
  (∀ e ∈ o.after, Region.binds .any e = true → ∀ (o' : Oper) (d' : Nat), ops[e.on]? = some o' → o'.dst = some d' → S d' w (T[d']?.getD undef)) →
  ∀ K : Act → World → Prop, (∀ v w', Below w.heap.size w w' → S d w' v → K (Act.put ⟨T, D⟩ (some d) v) w') → o.wp P ⟨T, D⟩ w K Q)
 (hend : ∀ (T : Array Value) (w : World), T.size = a0.tmps.size → Below w0.heap.size w0 w → (∀ t, (dstsOf ops).contains t = false → T[t]?.getD undef = a0.tmps[t]?.getD undef) →
  (∀ d, (dstsOf ops).contains d = true → S d w (T[d]?.getD undef)) → Q .normal ⟨T, a0.defers⟩ w) : (Code.region id ops true).wp P Q a0 w0 := by
 refine wp_region_inv hm (RI w0 a0 ops S) ?_ ?_ ?_
 · refine ⟨⟨rfl, rfl, rfl, Nat.le_refl _, fun _ _ => rfl⟩, rfl, rfl, fun _ _ => rfl, fun i o d ho hd hi => ?_⟩
   have hlt : i < ops.size := (Array.getElem?_eq_some_iff.1 ho).1
   simp [hlt] at hi
 · intro listed a w i hs hI hi
   obtain ⟨h1, h2, h3⟩ := ready_mem hi
   have ho : ops[i]? = some ops[i] := Array.getElem?_eq_getElem h1
   obtain ⟨⟨d, hd, _⟩, hg, _⟩ := slots_op hok ho
   refine wpOp_step ho fun K hK => ?_
   have hwant : Region.wanted ops[i] (yielded ops a.tmps) = true := by
    unfold Region.wanted
    cases hgd : ops[i].guard with
    | none => rfl
    | some p =>
      obtain ⟨j, b⟩ := p
      unfold guardOk at hg
      rw [hgd] at hg
      simp only [Bool.and_eq_true] at hg
      obtain ⟨hga, hgb⟩ := hg
      obtain ⟨dj, hdj⟩ := Option.isSome_iff_exists.1 hgb
      obtain ⟨e, he, hb⟩ := Array.any_eq_true'.1 hga
      simp only [Bool.and_eq_true, beq_iff_eq] at hb
      obtain ⟨oj, hoj, hdj'⟩ := Option.bind_eq_some_iff.1 hdj
      have hv := hG i ops[i] j b dj ho hgd hdj w _ (hI.got j oj dj hoj hdj' (by rw [← hb.1]; exact h3 _ ho e he hb.2))
      have hlt : dj < a.tmps.size := by
       obtain ⟨⟨d', e', hl⟩, _⟩ := slots_op hok hoj
       rw [hdj'] at e'
       cases e'
       rw [hI.size]
       exact hl
      have hy : yielded ops a.tmps j = some b := by
       unfold yielded
       rw [hdj]
       rw [Array.getElem?_eq_getElem hlt] at hv
       show (match a.tmps[dj]? with | some (.bool b) => some b | _ => none) = some b
       rw [Array.getElem?_eq_getElem hlt]
       simp only [Option.getD_some] at hv
       rw [hv]
      simp [hy]
   rw [if_pos hwant]
   refine step i ops[i] d ho hd a.tmps a.defers w hI.below hI.old (fun e he hb o' d' ho' hd' => hI.got e.on o' d' ho' hd' (h3 _ ho e he hb)) K fun v w' hB hv => ?_
   have hp := hI.put hok mono ho hd hB hv
   exact hK _ _ hp
 · intro listed a w hs hI hr
   have hall := all_listed hs (fun i o ho => (slots_op hok ho).2.2) hr
   have := hend a.tmps w hI.size hI.below hI.old fun d hd => by
    obtain ⟨i, o, ho, hd'⟩ := mem_dst hd
    exact hI.got i o d ho hd' (hall i (Array.getElem?_eq_some_iff.1 ho).1)
   have he := hI.defers
   obtain ⟨T, D⟩ := a
   simp only at he
   subst he
   exact this
theorem dep {o : Oper} {S : Nat → World → Value → Prop} {w : World} {T : Array Value} (h : ∀ e ∈ o.after, Region.binds .any e = true → ∀ (o' : Oper) (d' : Nat), ops[e.on]? = some o' → o'.dst = some d' → S d' w (T[d']?.getD undef)) (k : Nat)
 (hk : o.after.any (fun e => e.on == k && Region.binds .any e) = true) {o' : Oper} {d' : Nat} (ho : ops[k]? = some o') (hd : o'.dst = some d') : S d' w (T[d']?.getD undef) := by
 obtain ⟨e, he, hb⟩ := Array.any_eq_true'.1 hk
 simp only [Bool.and_eq_true, beq_iff_eq] at hb
 exact h e he hb.2 o' d' (by rw [hb.1]; exact ho) hd
def StepOk (P : Program) (ops : Array Oper) (Q : Exit → Act → World → Prop) (a0 : Act) (w0 : World) (S : Nat → World → Value → Prop) (o : Oper) (d : Nat) : Prop :=
 ∀ (T : Array Value) (D : List Deferred) (w : World), Below w0.heap.size w0 w →
  (∀ t, (dstsOf ops).contains t = false → T[t]?.getD undef = a0.tmps[t]?.getD undef) →
  (∀ e ∈ o.after, Region.binds .any e = true → ∀ (o' : Oper) (d' : Nat), ops[e.on]? = some o' → o'.dst = some d' → S d' w (T[d']?.getD undef)) →
  ∀ K : Act → World → Prop, (∀ v w', Below w.heap.size w w' → S d w' v → K (Act.put ⟨T, D⟩ (some d) v) w') → o.wp P ⟨T, D⟩ w K Q
def StepsOk (P : Program) (ops : Array Oper) (Q : Exit → Act → World → Prop) (a0 : Act) (w0 : World) (S : Nat → World → Value → Prop) : List Oper → Prop
 | [] => True
 | o :: r => (∀ d, o.dst = some d → StepOk P ops Q a0 w0 S o d) ∧ StepsOk P ops Q a0 w0 S r
theorem steps_nil {a0 : Act} {w0 : World} {S : Nat → World → Value → Prop} : StepsOk P ops Q a0 w0 S [] := trivial
theorem steps_cons {a0 : Act} {w0 : World} {S : Nat → World → Value → Prop} {o : Oper} {r : List Oper} (d : Nat) (hd : o.dst = some d) (h : StepOk P ops Q a0 w0 S o d) (hr : StepsOk P ops Q a0 w0 S r) : StepsOk P ops Q a0 w0 S (o :: r) :=
 ⟨fun d' hd' => by rw [hd] at hd'; cases hd'; exact h, hr⟩
theorem steps_at {a0 : Act} {w0 : World} {S : Nat → World → Value → Prop} : ∀ {r : List Oper} {i : Nat} {o : Oper} {d : Nat}, StepsOk P ops Q a0 w0 S r → r[i]? = some o → o.dst = some d → StepOk P ops Q a0 w0 S o d
 | [], _, _, _, _, h, _ => by simp at h
 | x :: r, 0, o, d, h, ho, hd => by
   simp only [List.getElem?_cons_zero, Option.some.injEq] at ho
   subst ho
   exact h.1 d hd
 | x :: r, i + 1, o, d, h, ho, hd => steps_at h.2 (by simpa using ho) hd
theorem wp_region_steps {id : Nat} {a0 : Act} {w0 : World} (hm : P.follows .mixedOrders = true) (S : Nat → World → Value → Prop) (hok : slotsOk ops a0.tmps.size = true) (hG : ∀ (i : Nat) (o : Oper) (j : Nat) (b : Bool) (d : Nat), ops[i]? = some o → o.guard = some (j, b) → (ops[j]?).bind (·.dst) = some d → ∀ w v, S d w v → v = .bool b)
 (mono : ∀ d w w' v, S d w v → Below w.heap.size w w' → S d w' v) (step : StepsOk P ops Q a0 w0 S ops.toList)
 (hend : ∀ (T : Array Value) (w : World), T.size = a0.tmps.size → Below w0.heap.size w0 w → (∀ t, (dstsOf ops).contains t = false → T[t]?.getD undef = a0.tmps[t]?.getD undef) →
  (∀ d, (dstsOf ops).contains d = true → S d w (T[d]?.getD undef)) → Q .normal ⟨T, a0.defers⟩ w) : (Code.region id ops true).wp P Q a0 w0 :=
 wp_region_slots hm S hok hG mono (fun i o d ho hd => steps_at step (by rw [Array.getElem?_toList]; exact ho) hd) hend
theorem tmps_lit (T : Array Value) (n : Nat) (h : T.size = n) : T = ((List.range n).map (fun t => T[t]?.getD undef)).toArray := by
 subst h
 apply Array.ext
 · simp
 · intro i h1 h2
   simp [h1]
end
def vS (l : List (Nat × Value)) (d : Nat) (_ : World) (v : Value) : Prop := v = (l.lookup d).getD undef
def guardsB (t : List (Nat × Bool)) (ops : Array Oper) : Bool := ops.toList.all fun o => match o.guard with | none => true | some (j, b) => (match (ops[j]?).bind (·.dst) with | some d => t.contains (d, b) | none => true)
theorem guardsB_ok {l : List (Nat × Value)} {t : List (Nat × Bool)} {ops : Array Oper} (h : guardsB t ops = true) (hl : ∀ p ∈ t, (l.lookup p.1).getD undef = .bool p.2) : ∀ (i : Nat) (o : Oper) (j : Nat) (b : Bool) (d : Nat), ops[i]? = some o → o.guard = some (j, b) → (ops[j]?).bind (·.dst) = some d → ∀ w v, vS l d w v → v = .bool b := by
 intro i o j b d ho hg hd w v hs
 unfold guardsB at h
 have := List.all_eq_true.1 h o (Array.mem_toList_iff.2 (Array.mem_of_getElem? ho))
 rw [hg] at this
 dsimp only at this
 rw [hd] at this
 dsimp only at this
 rw [List.contains_eq_mem, decide_eq_true_eq] at this
 unfold vS at hs
 rw [hs]
 exact hl _ this
theorem vS_keep {l : List (Nat × Value)} {d : Nat} {w w' : World} {v : Value} (h : vS l d w v) (_ : Below w.heap.size w w') : vS l d w' v := h
end Go.Proofs.YtkpmmabdpeobaaaGreatDoor.Pg
namespace Go.Proofs.YtkpmmabdpeobaaaGreatDoor.Px
open Go.RowKit
open Tz Tb Civ
theorem row6d {X : World} {b : Nat} {T : TypeId} {x0 x1 x2 x3 x4 x5 : Value} (h : X.heap[b]? = some (.cells #[x0, x1, x2, x3, x4, x5] T (0, 0))) : X.cell? ⟨b, 0, none⟩ = some x0 ∧ X.cell? ⟨b, 1, none⟩ = some x1 ∧ X.cell? ⟨b, 2, none⟩ = some x2 ∧ X.cell? ⟨b, 3, none⟩ = some x3 ∧ X.cell? ⟨b, 4, none⟩ = some x4 ∧ X.cell? ⟨b, 5, none⟩ = some x5 :=
 ⟨cells_at h 0, cells_at h 1, cells_at h 2, cells_at h 3, cells_at h 4, cells_at h 5⟩
theorem tab_rows {X : World} {B n m : Nat} {tv rv : Value} {x : Tab} {S : ByteArray} (h1 : X.ownsRow B 36 2 rv n (x.trans.flatMap Tr.cells)) (h2 : X.ownsRow B 28 3 tv m (x.types.flatMap Lc.cells)) (hn : n = x.trans.length) (hm : m = x.types.length) (hf : TabFit x) (hS : bs x.foot = S) : TabV X tv rv S x :=
 ⟨LcV.own h2 hm, TrV.own h1 hn, hS.symm, hf.lcs, hf.trs⟩
end Go.Proofs.YtkpmmabdpeobaaaGreatDoor.Px
