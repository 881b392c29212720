/- A region that draws its order, by an invariant: each operation is looked at once, whatever stands ahead of it. No program in sight. A region that draws its order, whose operations each have a slot of their own: what the slots hold at the end, whatever the order. No program in sight. The examples of chapter 40 hold: analemmalaw40.works. -/
import Derived.RegionTactic
import Derived.Below
import Derived.Test.YtlaplgaccjmbhaaGreatDoorSG25
import Derived.Test.YtlaplgaccjmbhaaGreatDoorSG23
import Derived.Test.YtlaplgaccjmbhaaGreatDoorSG18
import Derived.Deep.RegionHeld3
namespace Go.Proofs.YtlaplgaccjmbhaaGreatDoor.Px
section
variable {P : Program} {ops : Array Oper} {Q : Exit → Act → World → Prop} {md : Region.Mode}
/-- how many operations are not listed yet -/
def unlisted (ops : Array Oper) (listed : Array Bool) : Nat := ((List.range ops.size).filter (fun i => !listed.getD i true)).length
theorem ready_mem {listed : Array Bool} {i : Nat} (h : i ∈ Region.ready md ops listed) : i < ops.size ∧ listed.getD i true = false ∧ ∀ o, ops[i]? = some o → ∀ e ∈ o.after, Region.binds md e = true → listed.getD e.on false = true := by
  unfold Region.ready at h
  obtain ⟨h1, h2⟩ := List.mem_filter.1 h
  simp only [Bool.and_eq_true, Bool.not_eq_true'] at h2
  refine ⟨List.mem_range.1 h1, h2.1, fun o ho e he hb => ?_⟩
  have h3 := h2.2
  rw [ho] at h3
  simp only [Option.map_some, Option.getD_some] at h3
  have h4 := Array.all_eq_true'.1 h3 e he
  simpa [hb] using h4
theorem unlisted_set {listed : Array Bool} (hs : listed.size = ops.size) {i : Nat} (hi : i < ops.size) (h : listed.getD i true = false) : unlisted ops (listed.setIfInBounds i true) < unlisted ops listed := by
  unfold unlisted
  have key : ∀ j, (listed.setIfInBounds i true).getD j true = if j = i then true else listed.getD j true := by
    intro j
    simp only [Array.getD_eq_getD_getElem?, Array.getElem?_setIfInBounds]
    by_cases hj : i = j
    · subst hj
      rw [if_pos rfl, if_pos rfl, if_pos (by omega)]
      rfl
    · rw [if_neg hj, if_neg (fun e => hj e.symm)]
  have e : (List.range ops.size).filter (fun j => !(listed.setIfInBounds i true).getD j true) = ((List.range ops.size).filter (fun j => !listed.getD j true)).filter (fun j => decide (j ≠ i)) := by
    rw [List.filter_filter]
    congr 1
    funext j
    rw [key]
    by_cases hj : j = i <;> simp [hj]
  rw [e]
  refine List.length_filter_lt_length_iff_exists.2 ⟨i, List.mem_filter.2 ⟨List.mem_range.2 hi, by rw [h]; rfl⟩, by simp⟩
/-- the law: what holds of the operations that are listed, and of the world, is kept by each operation that is ready -/
theorem wpAny_inv (I : Array Bool → Act → World → Prop)
    (hstep : ∀ listed a w i, listed.size = ops.size → I listed a w → i ∈ Region.ready md ops listed → wpOp P ops Q i (fun a' w' => I (listed.setIfInBounds i true) a' w') a w)
    (hend : ∀ listed a w, listed.size = ops.size → I listed a w → Region.ready md ops listed = [] → Q .normal a w) :
    ∀ (fuel : Nat) (listed : Array Bool) (a : Act) (w : World), listed.size = ops.size → unlisted ops listed ≤ fuel → I listed a w → wpAny P md ops Q fuel listed a w
  | 0, listed, a, w, hs, hf, hI => by
    have hr : Region.ready md ops listed = [] := by
      rw [List.eq_nil_iff_forall_not_mem]
      intro i hi
      obtain ⟨h1, h2, _⟩ := ready_mem hi
      have := unlisted_set hs h1 h2
      omega
    exact ⟨hr, hend _ _ _ hs hI hr⟩
  | fuel + 1, listed, a, w, hs, hf, hI => by
    refine ⟨fun h0 => hend _ _ _ hs hI h0, fun i hi => ?_⟩
    obtain ⟨h1, h2, _⟩ := ready_mem hi
    have h3 := unlisted_set hs h1 h2
    exact wpOp_mono (fun a' w' h => wpAny_inv I hstep hend fuel _ a' w' (by simpa using hs) (by omega) h) (hstep listed a w i hs hI hi)
theorem wp_region_inv {id : Nat} {a : Act} {w : World} (hm : P.follows .mixedOrders = true) (I : Array Bool → Act → World → Prop) (h0 : I (Array.replicate ops.size false) a w.drew)
    (hstep : ∀ listed a w i, listed.size = ops.size → I listed a w → i ∈ Region.ready .any ops listed → wpOp P ops Q i (fun a' w' => I (listed.setIfInBounds i true) a' w') a w)
    (hend : ∀ listed a w, listed.size = ops.size → I listed a w → Region.ready .any ops listed = [] → Q .normal a w) : (Code.region id ops true).wp P Q a w :=
  wp_region_any hm (wpAny_inv I hstep hend ops.size _ a _ (by simp) (by unfold unlisted; exact Nat.le_trans (List.length_filter_le _ _) (by simp)) h0)
/-- at the end all operations are listed: if none is ready and each one's predecessors have lower numbers -/
theorem all_listed {listed : Array Bool} (hs : listed.size = ops.size) (hlow : ∀ (i : Nat) (o : Oper), ops[i]? = some o → ∀ e ∈ o.after, e.on < i) (h : Region.ready md ops listed = []) : ∀ i, i < ops.size → listed.getD i false = true := by
  intro i
  induction i using Nat.strongRecOn with
  | _ i ih =>
    intro hi
    by_cases hl : listed.getD i true = true
    · rw [Array.getD_eq_getD_getElem?, Array.getElem?_eq_getElem (by omega)] at hl ⊢
      exact hl
    · exfalso
      have hmem : i ∈ Region.ready md ops listed := by
        unfold Region.ready
        refine List.mem_filter.2 ⟨List.mem_range.2 hi, ?_⟩
        simp only [Bool.and_eq_true, Bool.not_eq_true']
        refine ⟨by simpa using hl, ?_⟩
        rw [Array.getElem?_eq_getElem hi]
        simp only [Option.map_some, Option.getD_some]
        refine Array.all_eq_true'.2 fun e he => ?_
        have h1 := hlow i ops[i] (Array.getElem?_eq_getElem hi) e he
        rw [ih e.on h1 (by omega)]
        simp
      rw [h] at hmem
      cases hmem
end
end Go.Proofs.YtlaplgaccjmbhaaGreatDoor.Px
namespace Go.Proofs.YtlaplgaccjmbhaaGreatDoor.Px
open Go.RowKit
section
variable {P : Program} {ops : Array Oper} {Q : Exit → Act → World → Prop} {md : Region.Mode}
def dstsOf (ops : Array Oper) : List Nat := ops.toList.filterMap (·.dst)
/-- each operation has a slot of its own and no guard, and stands behind those that it waits for -/
def slotsOk (ops : Array Oper) (n : Nat) : Bool :=
  (List.range ops.size).all (fun i => match ops[i]? with | some o => (match o.dst with | some d => decide (d < n) | none => false) && o.guard.isNone && o.after.all (fun e => decide (e.on < i)) | none => true) &&
  decide ((ops.toList.map (·.dst)).Nodup)
/-- what the slots of the operations that are listed hold -/
structure RI (w0 : World) (a0 : Act) (ops : Array Oper) (S : Nat → World → Value → Prop) (listed : Array Bool) (a : Act) (w : World) : Prop where
  below : Below w0.heap.size w0 w
  defers : a.defers = a0.defers
  size : a.tmps.size = a0.tmps.size
  old : ∀ t, (dstsOf ops).contains t = false → a.tmps[t]?.getD undef = a0.tmps[t]?.getD undef
  got : ∀ (i : Nat) (o : Oper) (d : Nat), ops[i]? = some o → o.dst = some d → listed.getD i false = true → S d w (a.tmps[d]?.getD undef)
theorem slots_op {n : Nat} (h : slotsOk ops n = true) {i : Nat} {o : Oper} (ho : ops[i]? = some o) : (∃ d, o.dst = some d ∧ d < n) ∧ o.guard = none ∧ ∀ e ∈ o.after, e.on < i := by
  unfold slotsOk at h
  rw [Bool.and_eq_true] at h
  have hi : i < ops.size := (Array.getElem?_eq_some_iff.1 ho).1
  have h1 := List.all_eq_true.1 h.1 i (List.mem_range.2 hi)
  rw [ho] at h1
  simp only [Bool.and_eq_true, Option.isNone_iff_eq_none, Array.all_eq_true_iff_forall_mem, decide_eq_true_eq] at h1
  obtain ⟨⟨h2, h3⟩, h4⟩ := h1
  refine ⟨?_, h3, h4⟩
  cases hd : o.dst with
  | none => rw [hd] at h2; cases h2
  | some d => rw [hd] at h2; exact ⟨d, rfl, by simpa using h2⟩
theorem slots_ne {n : Nat} (h : slotsOk ops n = true) {i j : Nat} {o o' : Oper} {d : Nat} (ho : ops[i]? = some o) (ho' : ops[j]? = some o') (hd : o.dst = some d) (hd' : o'.dst = some d) : i = j := by
  unfold slotsOk at h
  rw [Bool.and_eq_true] at h
  have hn := of_decide_eq_true h.2
  have e1 : (ops.toList.map (·.dst))[i]? = some (some d) := by rw [List.getElem?_map, Array.getElem?_toList, ho, Option.map_some, hd]
  have e2 : (ops.toList.map (·.dst))[j]? = some (some d) := by rw [List.getElem?_map, Array.getElem?_toList, ho', Option.map_some, hd']
  have l1 := (List.getElem?_eq_some_iff.1 e1)
  have l2 := (List.getElem?_eq_some_iff.1 e2)
  obtain ⟨b1, c1⟩ := l1
  obtain ⟨b2, c2⟩ := l2
  exact (List.getElem_inj hn).1 (c1.trans c2.symm)
theorem dst_mem {i : Nat} {o : Oper} {d : Nat} (ho : ops[i]? = some o) (hd : o.dst = some d) : (dstsOf ops).contains d = true := by
  unfold dstsOf
  rw [List.contains_eq_mem]
  exact decide_eq_true (List.mem_filterMap.2 ⟨o, Array.mem_toList_iff.2 (Array.mem_of_getElem? ho), hd⟩)
theorem mem_dst {d : Nat} (h : (dstsOf ops).contains d = true) : ∃ (i : Nat) (o : Oper), ops[i]? = some o ∧ o.dst = some d := by
  unfold dstsOf at h
  rw [List.contains_eq_mem] at h
  obtain ⟨o, ho, hd⟩ := List.mem_filterMap.1 (of_decide_eq_true h)
  obtain ⟨i, hi, e⟩ := List.getElem_of_mem ho
  refine ⟨i, o, ?_, hd⟩
  rw [← Array.getElem?_toList, List.getElem?_eq_getElem hi, e]
theorem RI.put {w0 : World} {a0 : Act} {S : Nat → World → Value → Prop} {listed : Array Bool} {a : Act} {w w' : World} (h : RI w0 a0 ops S listed a w) (hok : slotsOk ops a0.tmps.size = true)
    (mono : ∀ d w w' v, S d w v → Below w.heap.size w w' → S d w' v) {i : Nat} {o : Oper} {d : Nat} (ho : ops[i]? = some o) (hd : o.dst = some d) {v : Value} (hB : Below w.heap.size w w') (hv : S d w' v) :
    RI w0 a0 ops S (listed.setIfInBounds i true) (a.put (some d) v) w' := by
  have hdn : d < a.tmps.size := by
    obtain ⟨⟨d', e, hlt⟩, _⟩ := slots_op hok ho
    rw [hd] at e
    cases e
    rw [h.size]
    exact hlt
  refine ⟨h.below.trans (hB.mono h.below.size), h.defers, by simp [Act.put, h.size], fun t ht => ?_, fun j o' d' ho' hd' hj => ?_⟩
  · have hne : d ≠ t := fun e => by rw [← e, dst_mem ho hd] at ht; cases ht
    show (a.tmps.setIfInBounds d v)[t]?.getD undef = _
    rw [Array.getElem?_setIfInBounds_ne hne]
    exact h.old t ht
  · show S d' w' ((a.tmps.setIfInBounds d v)[d']?.getD undef)
    by_cases hij : i = j
    · subst hij
      rw [ho] at ho'
      cases ho'
      rw [hd] at hd'
      cases hd'
      rw [Array.getElem?_setIfInBounds_self_of_lt hdn]
      exact hv
    · have hne : d ≠ d' := fun e => hij (slots_ne hok ho ho' hd (by rw [e]; exact hd'))
      rw [Array.getElem?_setIfInBounds_ne hne]
      refine mono _ _ _ _ (h.got j o' d' ho' hd' ?_) hB
      rwa [getD_set_ne false hij] at hj
/-- the law -/
theorem wp_region_slots {id : Nat} {a0 : Act} {w0 : World} (hm : P.follows .mixedOrders = true) (S : Nat → World → Value → Prop) (hok : slotsOk ops a0.tmps.size = true)
    (mono : ∀ d w w' v, S d w v → Below w.heap.size w w' → S d w' v)
    (step : ∀ (i : Nat) (o : Oper) (d : Nat), ops[i]? = some o → o.dst = some d → ∀ (T : Array Value) (D : List Deferred) (w : World), Below w0.heap.size w0 w →
      (∀ t, (dstsOf ops).contains t = false → T[t]?.getD undef = a0.tmps[t]?.getD undef) →
      (∀ e ∈ o.after, Region.binds .any e = true → ∀ (o' : Oper) (d' : Nat), ops[e.on]? = some o' → o'.dst = some d' → S d' w (T[d']?.getD undef)) →
      ∀ K : Act → World → Prop, (∀ v w', Below w.heap.size w w' → S d w' v → K (Act.put ⟨T, D⟩ (some d) v) w') → o.wp P ⟨T, D⟩ w K Q)
    (hend : ∀ (T : Array Value) (w : World), T.size = a0.tmps.size → Below w0.heap.size w0 w → (∀ t, (dstsOf ops).contains t = false → T[t]?.getD undef = a0.tmps[t]?.getD undef) →
      (∀ d, (dstsOf ops).contains d = true → S d w (T[d]?.getD undef)) → Q .normal ⟨T, a0.defers⟩ w) : (Code.region id ops true).wp P Q a0 w0 := by
  refine wp_region_inv hm (RI w0 a0 ops S) ?_ ?_ ?_
  · refine ⟨⟨rfl, rfl, rfl, Nat.le_refl _, fun _ _ => rfl⟩, rfl, rfl, fun _ _ => rfl, fun i o d ho hd hi => ?_⟩
    have hlt : i < ops.size := (Array.getElem?_eq_some_iff.1 ho).1
    simp [hlt] at hi
  · intro listed a w i hs hI hi
    obtain ⟨h1, h2, h3⟩ := ready_mem hi
    have ho : ops[i]? = some ops[i] := Array.getElem?_eq_getElem h1
    obtain ⟨⟨d, hd, _⟩, hg, _⟩ := slots_op hok ho
    refine wpOp_step ho fun K hK => ?_
    rw [if_pos (by unfold Region.wanted; rw [hg])]
    refine step i ops[i] d ho hd a.tmps a.defers w hI.below hI.old (fun e he hb o' d' ho' hd' => hI.got e.on o' d' ho' hd' (h3 _ ho e he hb)) K fun v w' hB hv => ?_
    have hp := hI.put hok mono ho hd hB hv
    exact hK _ _ hp
  · intro listed a w hs hI hr
    have hall := all_listed hs (fun i o ho => (slots_op hok ho).2.2) hr
    have := hend a.tmps w hI.size hI.below hI.old fun d hd => by
      obtain ⟨i, o, ho, hd'⟩ := mem_dst hd
      exact hI.got i o d ho hd' (hall i (Array.getElem?_eq_some_iff.1 ho).1)
    have he := hI.defers
    obtain ⟨T, D⟩ := a
    simp only at he
    subst he
    exact this
/-- what the slot of an operation holds that stands behind operation number k -/
theorem dep {o : Oper} {S : Nat → World → Value → Prop} {w : World} {T : Array Value} (h : ∀ e ∈ o.after, Region.binds .any e = true → ∀ (o' : Oper) (d' : Nat), ops[e.on]? = some o' → o'.dst = some d' → S d' w (T[d']?.getD undef)) (k : Nat)
    (hk : o.after.any (fun e => e.on == k && Region.binds .any e) = true) {o' : Oper} {d' : Nat} (ho : ops[k]? = some o') (hd : o'.dst = some d') : S d' w (T[d']?.getD undef) := by
  obtain ⟨e, he, hb⟩ := Array.any_eq_true'.1 hk
  simp only [Bool.and_eq_true, beq_iff_eq] at hb
  exact h e he hb.2 o' d' (by rw [hb.1]; exact ho) hd
/-- one operation of the region -/
def StepOk (P : Program) (ops : Array Oper) (Q : Exit → Act → World → Prop) (a0 : Act) (w0 : World) (S : Nat → World → Value → Prop) (o : Oper) (d : Nat) : Prop :=
  ∀ (T : Array Value) (D : List Deferred) (w : World), Below w0.heap.size w0 w →
      (∀ t, (dstsOf ops).contains t = false → T[t]?.getD undef = a0.tmps[t]?.getD undef) →
      (∀ e ∈ o.after, Region.binds .any e = true → ∀ (o' : Oper) (d' : Nat), ops[e.on]? = some o' → o'.dst = some d' → S d' w (T[d']?.getD undef)) →
      ∀ K : Act → World → Prop, (∀ v w', Below w.heap.size w w' → S d w' v → K (Act.put ⟨T, D⟩ (some d) v) w') → o.wp P ⟨T, D⟩ w K Q
def StepsOk (P : Program) (ops : Array Oper) (Q : Exit → Act → World → Prop) (a0 : Act) (w0 : World) (S : Nat → World → Value → Prop) : List Oper → Prop
  | [] => True
  | o :: r => (∀ d, o.dst = some d → StepOk P ops Q a0 w0 S o d) ∧ StepsOk P ops Q a0 w0 S r
theorem steps_nil {a0 : Act} {w0 : World} {S : Nat → World → Value → Prop} : StepsOk P ops Q a0 w0 S [] := trivial
theorem steps_cons {a0 : Act} {w0 : World} {S : Nat → World → Value → Prop} {o : Oper} {r : List Oper} (d : Nat) (hd : o.dst = some d) (h : StepOk P ops Q a0 w0 S o d) (hr : StepsOk P ops Q a0 w0 S r) : StepsOk P ops Q a0 w0 S (o :: r) :=
  ⟨fun d' hd' => by rw [hd] at hd'; cases hd'; exact h, hr⟩
theorem steps_at {a0 : Act} {w0 : World} {S : Nat → World → Value → Prop} : ∀ {r : List Oper} {i : Nat} {o : Oper} {d : Nat}, StepsOk P ops Q a0 w0 S r → r[i]? = some o → o.dst = some d → StepOk P ops Q a0 w0 S o d
  | [], _, _, _, _, h, _ => by simp at h
  | x :: r, 0, o, d, h, ho, hd => by
    simp only [List.getElem?_cons_zero, Option.some.injEq] at ho
    subst ho
    exact h.1 d hd
  | x :: r, i + 1, o, d, h, ho, hd => steps_at h.2 (by simpa using ho) hd
/-- the law, the operations one by one -/
theorem wp_region_steps {id : Nat} {a0 : Act} {w0 : World} (hm : P.follows .mixedOrders = true) (S : Nat → World → Value → Prop) (hok : slotsOk ops a0.tmps.size = true)
    (mono : ∀ d w w' v, S d w v → Below w.heap.size w w' → S d w' v) (step : StepsOk P ops Q a0 w0 S ops.toList)
    (hend : ∀ (T : Array Value) (w : World), T.size = a0.tmps.size → Below w0.heap.size w0 w → (∀ t, (dstsOf ops).contains t = false → T[t]?.getD undef = a0.tmps[t]?.getD undef) →
      (∀ d, (dstsOf ops).contains d = true → S d w (T[d]?.getD undef)) → Q .normal ⟨T, a0.defers⟩ w) : (Code.region id ops true).wp P Q a0 w0 :=
  wp_region_slots hm S hok mono (fun i o d ho hd => steps_at step (by rw [Array.getElem?_toList]; exact ho) hd) hend
/-- a frame's slots, one by one -/
theorem tmps_lit (T : Array Value) (n : Nat) (h : T.size = n) : T = ((List.range n).map (fun t => T[t]?.getD undef)).toArray := by
  subst h
  apply Array.ext
  · simp
  · intro i h1 h2
    simp [h1]
end
end Go.Proofs.YtlaplgaccjmbhaaGreatDoor.Px
namespace Go.Proofs.YtlaplgaccjmbhaaGreatDoor.Tb
open Px
def c40 : List (Tab × Int) := [(ex40, 0), (⟨[], ex40.trans, gmt0⟩, 4), (⟨[gmtL, bstL, ⟨0, false, bs [85, 84, 67]⟩], ex40.trans, gmt0⟩, 4), (⟨[gmtL, gmtL], ex40.trans, gmt0⟩, 10), (⟨[⟨54001, false, bs [71, 77, 84]⟩, bstL], ex40.trans, gmt0⟩, 3), (⟨[⟨0, false, bs [71, 77]⟩, bstL], ex40.trans, gmt0⟩, 15), (⟨[⟨0, false, bs [71, 95, 84]⟩, bstL], ex40.trans, gmt0⟩, 15),
  (⟨ex40.types, [⟨100, 0⟩], gmt0⟩, 2), (⟨ex40.types, [⟨100, 2⟩], gmt0⟩, 2), (⟨ex40.types, [⟨200, 1⟩, ⟨200, 0⟩], gmt0⟩, 12), (⟨ex40.types, ex40.trans, [66, 83, 84, 45, 49]⟩, 16), (⟨ex40.types, ex40.trans, [120]⟩, 5)]
theorem c40_all : c40.all (fun c => decide (checkE c.1 = c.2)) = true := by kernel_rfl
theorem c40_fit : c40.all (fun c => c.1.types.all (fun l => (Lit.int .i64 l.off).wf && decide (l.abbr.size ≤ 1000)) && c.1.trans.all (fun x => (Lit.int .i64 x.at').wf && (Lit.int .i64 x.ty).wf)) = true := by kernel_rfl
theorem ex40_text : textP ex40 = ([116, 121, 112, 101, 32, 48, 32, 48, 58, 48, 48, 32, 115, 116, 100, 32, 71, 77, 84, 10, 116, 121, 112, 101, 32, 49, 32, 49, 58, 48, 48, 32, 100, 115, 116, 32, 66, 83, 84, 10, 97, 116, 32, 49, 48, 48, 32, 49, 10, 97, 116, 32, 50, 48, 48, 32, 48, 10, 102, 111, 111, 116, 101, 114, 32, 71, 77, 84, 48, 10], 0) := by kernel_rfl
theorem ex40_made : ofT gmtL [50, 100, 150, 200] [gmtL, bstL, bstL, gmtL] gmt0 = (ex40, 0) := by kernel_rfl
end Go.Proofs.YtlaplgaccjmbhaaGreatDoor.Tb
namespace Go.Proofs.YtlaplgaccjmbhaaGreatDoor.Px
open Go.RowKit
open Civ Tb
/-- what a slot of the region that makes the examples holds -/
inductive Kd where
  | eq (v : Value)
  | lcs (l : List Lc)
  | trs (l : List Tr)
  | row (x : Tab) (e : Int)
  | rows (l : List (Tab × Int))
/-- the cells of some examples -/
def rowsOk (w : World) : List (Tab × Int) → List Value → Prop
  | [], _ => True
  | (x, e) :: r, tv :: rv :: f :: ev :: c => f = .string (bs x.foot) ∧ ev = .int .i64 e ∧ TabV w tv rv (bs x.foot) x ∧ rowsOk w r c
  | _, _ => False
def Kd.S : Kd → World → Value → Prop
  | .eq u, _, v => v = u
  | .lcs l, w, v => LcV w v l
  | .trs l, w, v => TrV w v l
  | .row x e, w, v => ∃ tv rv, v = .agg #[tv, rv, .string (bs x.foot), .int .i64 e] ∧ TabV w tv rv (bs x.foot) x
  | .rows l, w, v => ∃ n cs, v = .slice (some ⟨n, 0, none⟩) l.length l.length ∧ w.heap[n]? = some (.cells cs 114 (0, 0)) ∧ rowsOk w l cs.toList
theorem rowsOk_keep {w w' : World} (hB : Below w.heap.size w w') : ∀ (l : List (Tab × Int)) (c : List Value), rowsOk w l c → rowsOk w' l c
  | [], _, _ => trivial
  | (_, _) :: r, _ :: _ :: _ :: _ :: c, ⟨h1, h2, h3, h4⟩ => ⟨h1, h2, h3.keep hB, rowsOk_keep hB r c h4⟩
theorem rowsOk_at {w : World} : ∀ (l : List (Tab × Int)) (c : List Value) (k : Nat) (x : Tab) (e : Int), rowsOk w l c → l[k]? = some (x, e) →
    ∃ tv rv, c[k * 4]? = some tv ∧ c[k * 4 + 1]? = some rv ∧ c[k * 4 + 2]? = some (.string (bs x.foot)) ∧ c[k * 4 + 3]? = some (.int .i64 e) ∧ TabV w tv rv (bs x.foot) x
  | [], _, _, _, _, _, h => by simp at h
  | (x, e) :: r, tv :: rv :: f :: ev :: c, 0, x', e', ⟨h1, h2, h3, h4⟩, h => by
    simp only [List.getElem?_cons_zero, Option.some.injEq, Prod.mk.injEq] at h
    obtain ⟨rfl, rfl⟩ := h
    exact ⟨tv, rv, rfl, rfl, by rw [h1]; rfl, by rw [h2]; rfl, h3⟩
  | (x, e) :: r, tv :: rv :: f :: ev :: c, k + 1, x', e', ⟨h1, h2, h3, h4⟩, h => by
    obtain ⟨a, b, i1, i2, i3, i4, i5⟩ := rowsOk_at r c k x' e' h4 (by simpa using h)
    refine ⟨a, b, ?_, ?_, ?_, ?_, i5⟩
    · rw [show (k + 1) * 4 = k * 4 + 4 by omega]; exact i1
    · rw [show (k + 1) * 4 + 1 = k * 4 + 1 + 4 by omega]; exact i2
    · rw [show (k + 1) * 4 + 2 = k * 4 + 2 + 4 by omega]; exact i3
    · rw [show (k + 1) * 4 + 3 = k * 4 + 3 + 4 by omega]; exact i4
theorem Kd.keep {w w' : World} (hB : Below w.heap.size w w') : ∀ (k : Kd) (v : Value), k.S w v → k.S w' v
  | .eq _, _, h => h
  | .lcs _, _, h => LcV.keep h hB
  | .trs _, _, h => TrV.keep h hB
  | .row _ _, _, ⟨tv, rv, h1, h2⟩ => ⟨tv, rv, h1, h2.keep hB⟩
  | .rows _, _, ⟨n, cs, h1, h2, h3⟩ => ⟨n, cs, h1, (hB.block n (lt_of_block h2)).trans h2, rowsOk_keep hB _ _ h3⟩
/-- a new slice of local times, of transitions -/
theorem lcs_new (w : World) (cs : Array Value) (n : Nat) (L : List Lc) (hn : L.length = n) (hm : n ≤ 1000) (he : cs.toList = L.flatMap Lc.cells) : LcV (w.alloc (.cells cs 28 (0, 0))) (.slice (some ⟨w.heap.size, 0, none⟩) n n) L := by
  subst hn
  have hl := lc_len L
  rw [← he, Array.length_toList] at hl
  have k := (((Kp.start w).alloc (.cells cs 28 (0, 0))).own_block 3 L.length L.length (Nat.le_refl _) (by unfold maxLen; omega) hl).row 0 rfl
  dsimp only at k
  rw [he, List.take_of_length_le (by rw [lc_len]; exact Nat.le_refl _)] at k
  exact LcV.own k rfl
theorem trs_new (w : World) (cs : Array Value) (n : Nat) (L : List Tr) (hn : L.length = n) (hm : n ≤ 1000) (he : cs.toList = L.flatMap Tr.cells) : TrV (w.alloc (.cells cs 59 (0, 0))) (.slice (some ⟨w.heap.size, 0, none⟩) n n) L := by
  subst hn
  have hl := tr_len L
  rw [← he, Array.length_toList] at hl
  have k := (((Kp.start w).alloc (.cells cs 59 (0, 0))).own_block 2 L.length L.length (Nat.le_refl _) (by unfold maxLen; omega) hl).row 0 rfl
  dsimp only at k
  rw [he, List.take_of_length_le (by rw [tr_len]; exact Nat.le_refl _)] at k
  exact TrV.own k rfl
theorem fit40 : ∀ c ∈ c40, TabFit c.1 := by
  intro c hc
  have h := List.all_eq_true.1 c40_fit c hc
  rw [Bool.and_eq_true, List.all_eq_true, List.all_eq_true] at h
  refine ⟨fun l hl => ?_, fun x hx => ?_⟩
  · have := h.1 l hl
    rw [Bool.and_eq_true, decide_eq_true_eq] at this
    exact ⟨this.1, Nat.le_trans this.2 (by decide)⟩
  · have := h.2 x hx
    rw [Bool.and_eq_true] at this
    exact this
theorem fit4 : Lc.Fit gmtL ∧ (∀ x ∈ [gmtL, bstL, bstL, gmtL], Lc.Fit x) ∧ ∀ t ∈ [(50 : Int), 100, 150, 200], (Lit.int .i64 t).wf = true := by
  have h1 : Lc.Fit gmtL := ⟨by kernel_rfl, by decide⟩
  have h2 : Lc.Fit bstL := ⟨by kernel_rfl, by decide⟩
  refine ⟨h1, fun x hx => ?_, fun t ht => ?_⟩
  · simp only [List.mem_cons, List.not_mem_nil, or_false] at hx
    rcases hx with rfl | rfl | rfl | rfl <;> assumption
  · simp only [List.mem_cons, List.not_mem_nil, or_false] at ht
    rcases ht with rfl | rfl | rfl | rfl <;> kernel_rfl
theorem bdrew4 (X : World) : Below X.heap.size X X.drew := Civ.below_drewN (Below.refl _ X) 1
theorem row_keep4 {L : List (Nat × Obj)} {R : List Rw} {W X Y : World} {b : Nat} {c0 c1 c2 c3 : Value} {t : TypeId} (k : Nat) (K : Kp L R W X) (hk : L[k]? = some (b, .cells #[c0, c1, c2, c3] t (0, 0))) (hB : Below X.heap.size X Y) :
    Y.cell? ⟨b, 0, none⟩ = some c0 ∧ Y.cell? ⟨b, 1, none⟩ = some c1 ∧ Y.cell? ⟨b, 2, none⟩ = some c2 ∧ Y.cell? ⟨b, 3, none⟩ = some c3 ∧ Below X.heap.size X Y :=
  ⟨cells_at ((K.keep hB).at k hk) 0, cells_at ((K.keep hB).at k hk) 1, cells_at ((K.keep hB).at k hk) 2, cells_at ((K.keep hB).at k hk) 3, hB⟩
theorem alloc_below (w : World) (o : Obj) : Below w.heap.size w (w.alloc o) := (Below.refl _ w).alloc (Nat.le_refl _) o
def kds40 (b1 : Nat) (ta ra : Option Addr) (tc rc : Nat) : List Kd := [
  .eq (.pointer (some ⟨b1, 0, none⟩)),
  .eq (.slice ta 2 tc),
  .eq (.pointer (some ⟨b1, 1, none⟩)),
  .eq (.slice ra 2 rc),
  .row (c40.getD 0 (ex40, 0)).1 0,
  .eq (.pointer (some ⟨b1, 1, none⟩)),
  .eq (.slice ra 2 rc),
  .row (c40.getD 1 (ex40, 0)).1 4,
  .eq (.agg #[.int .i64 0, .bool false, .string ⟨#[71, 77, 84]⟩]),
  .eq (.agg #[.int .i64 3600, .bool true, .string ⟨#[66, 83, 84]⟩]),
  .eq (.agg #[.int .i64 0, .bool false, .string ⟨#[85, 84, 67]⟩]),
  .lcs [gmtL, bstL, ⟨0, false, bs [85, 84, 67]⟩],
  .eq (.pointer (some ⟨b1, 1, none⟩)),
  .eq (.slice ra 2 rc),
  .row (c40.getD 2 (ex40, 0)).1 4,
  .eq (.agg #[.int .i64 0, .bool false, .string ⟨#[71, 77, 84]⟩]),
  .eq (.agg #[.int .i64 0, .bool false, .string ⟨#[71, 77, 84]⟩]),
  .lcs [gmtL, gmtL],
  .eq (.pointer (some ⟨b1, 1, none⟩)),
  .eq (.slice ra 2 rc),
  .row (c40.getD 3 (ex40, 0)).1 10,
  .eq (.agg #[.int .i64 54001, .bool false, .string ⟨#[71, 77, 84]⟩]),
  .eq (.agg #[.int .i64 3600, .bool true, .string ⟨#[66, 83, 84]⟩]),
  .lcs [⟨54001, false, bs [71, 77, 84]⟩, bstL],
  .eq (.pointer (some ⟨b1, 1, none⟩)),
  .eq (.slice ra 2 rc),
  .row (c40.getD 4 (ex40, 0)).1 3,
  .eq (.agg #[.int .i64 0, .bool false, .string ⟨#[71, 77]⟩]),
  .eq (.agg #[.int .i64 3600, .bool true, .string ⟨#[66, 83, 84]⟩]),
  .lcs [⟨0, false, bs [71, 77]⟩, bstL],
  .eq (.pointer (some ⟨b1, 1, none⟩)),
  .eq (.slice ra 2 rc),
  .row (c40.getD 5 (ex40, 0)).1 15,
  .eq (.agg #[.int .i64 0, .bool false, .string ⟨#[71, 95, 84]⟩]),
  .eq (.agg #[.int .i64 3600, .bool true, .string ⟨#[66, 83, 84]⟩]),
  .lcs [⟨0, false, bs [71, 95, 84]⟩, bstL],
  .eq (.pointer (some ⟨b1, 1, none⟩)),
  .eq (.slice ra 2 rc),
  .row (c40.getD 6 (ex40, 0)).1 15,
  .eq (.pointer (some ⟨b1, 0, none⟩)),
  .eq (.slice ta 2 tc),
  .eq (.agg #[.int .i64 100, .int .i64 0]),
  .trs [⟨100, 0⟩],
  .row (c40.getD 7 (ex40, 0)).1 2,
  .eq (.pointer (some ⟨b1, 0, none⟩)),
  .eq (.slice ta 2 tc),
  .eq (.agg #[.int .i64 100, .int .i64 2]),
  .trs [⟨100, 2⟩],
  .row (c40.getD 8 (ex40, 0)).1 2,
  .eq (.pointer (some ⟨b1, 0, none⟩)),
  .eq (.slice ta 2 tc),
  .eq (.agg #[.int .i64 200, .int .i64 1]),
  .eq (.agg #[.int .i64 200, .int .i64 0]),
  .trs [⟨200, 1⟩, ⟨200, 0⟩],
  .row (c40.getD 9 (ex40, 0)).1 12,
  .eq (.pointer (some ⟨b1, 0, none⟩)),
  .eq (.slice ta 2 tc),
  .eq (.pointer (some ⟨b1, 1, none⟩)),
  .eq (.slice ra 2 rc),
  .row (c40.getD 10 (ex40, 0)).1 16,
  .eq (.pointer (some ⟨b1, 0, none⟩)),
  .eq (.slice ta 2 tc),
  .eq (.pointer (some ⟨b1, 1, none⟩)),
  .eq (.slice ra 2 rc),
  .row (c40.getD 11 (ex40, 0)).1 5,
  .rows c40,
  .eq (.int .i64 12),
  .eq (.int .i64 0)]
def s40 (b1 : Nat) (ta ra : Option Addr) (tc rc : Nat) (d : Nat) (w : World) (v : Value) : Prop := Kd.S ((kds40 b1 ta ra tc rc).getD (d - 18) (.eq undef)) w v
set_option maxHeartbeats 8000000 in
set_option maxRecDepth 100000 in
theorem works40_any (W : World) (hE : EnvAt W) : Calls Tryz.prog 29 #[] W fun e w' => e = .returned (.bool true) ∧ Below W.heap.size W w' := by
  have HE := Lib.hid hE
  have CE := Lib.hid (fun w => example_any w)
  have CG := Lib.hid (fun w => gmt_any w)
  have CB := Lib.hid (fun w => bst_any w)
  clear hE
  go_enter Tryz.func29, Tryz.ntmps29
  go_wp2_with fail
  refine (CE.out _).mono ?_
  rintro _ V0 ⟨tv, rv, rfl, hk⟩
  obtain ⟨ta, tc, rfl⟩ : ∃ a c, tv = .slice a 2 c := own_slice (hk.row 1 rfl)
  obtain ⟨ra, rc, rfl⟩ : ∃ a c, rv = .slice a 2 c := own_slice (hk.row 0 rfl)
  have K0 := Lib.hid (hk.alloc (.cells #[.slice ta 2 tc, .slice ra 2 rc, .string ⟨#[71, 77, 84, 48]⟩] 25))
  clear hk
  go_wp2_with fail
  refine (CG.out _).mono ?_
  rintro _ V1 ⟨rfl, hb⟩
  have K1 := Lib.hid ((K0.out.keep hb))
  clear hb
  go_wp2_with fail
  refine (CG.out _).mono ?_
  rintro _ V2 ⟨rfl, hb⟩
  have K2 := Lib.hid ((K1.out.keep hb))
  clear hb
  go_wp2_with fail
  refine (CG.out _).mono ?_
  rintro _ V3 ⟨rfl, hb⟩
  have K3 := Lib.hid ((K2.out.keep hb))
  clear hb
  have K4 := Lib.hid ((((K3.out.allocAt (V3.heap.size) (by simp) (.cells #[.int .i64 54001, .bool false, .string ⟨#[71, 77, 84]⟩] 28)).allocAt (V3.heap.size + 1) (by simp) (.cells #[.int .i64 0, .bool false, .string ⟨#[71, 77]⟩] 28)).allocAt (V3.heap.size + 1 + 1) (by simp) (.cells #[.int .i64 0, .bool false, .string ⟨#[71, 95, 84]⟩] 28)))
  obtain ⟨b1, hb1⟩ : ∃ b, V0.heap.size = b := ⟨_, rfl⟩
  obtain ⟨b2, hb2⟩ : ∃ b, V3.heap.size = b := ⟨_, rfl⟩
  obtain ⟨b3, hb3⟩ : ∃ b, b2 + 1 = b := ⟨_, rfl⟩
  obtain ⟨b4, hb4⟩ : ∃ b, b3 + 1 = b := ⟨_, rfl⟩
  rw [hb1, hb2, hb3, hb4] at K4
  have hB := Lib.hid (And.intro hb1 (And.intro hb2 (And.intro hb3 hb4)))
  clear hb1 hb2 hb3 hb4 K0 K1 K2 K3
  go_wp2_with fail
  obtain ⟨hb1, hb2, hb3, hb4⟩ := hB.out
  rw [hb1, hb2, hb3, hb4]
  obtain ⟨w0, hw0⟩ : ∃ w, (((V3.alloc (.cells #[.int .i64 54001, .bool false, .string ⟨#[71, 77, 84]⟩] 28)).alloc (.cells #[.int .i64 0, .bool false, .string ⟨#[71, 77]⟩] 28)).alloc (.cells #[.int .i64 0, .bool false, .string ⟨#[71, 95, 84]⟩] 28)) = w := ⟨_, rfl⟩
  rw [hw0] at K4 ⊢
  have HT := Lib.hid (show TabV w0 (.slice ta 2 tc) (.slice ra 2 rc) (bs gmt0) ex40 from ⟨LcV.own (K4.out.row 1 rfl) rfl, TrV.own (K4.out.row 0 rfl) rfl, rfl, (fit40 _ (List.mem_cons_self ..)).lcs, (fit40 _ (List.mem_cons_self ..)).trs⟩)
  clear hB hw0 hb1 hb2 hb3 hb4
  refine wp_region_steps (by kernel_rfl) (s40 b1 ta ra tc rc) (by kernel_rfl) (fun d w w' v h hB => Kd.keep hB _ v h) ?steps ?hend
  case steps =>
    refine steps_cons 18 rfl ?_ ?_
    · intro T D w hB0 hold hdep K hK0
      have hK := Lib.hid hK0
      have t1 : T[1]?.getD undef = (.pointer (some ⟨b1, 0, none⟩)) := hold 1 rfl
      clear hold hdep hK0
      go_simp
      exact hK.out _ _ (Below.refl _ _) rfl
    refine steps_cons 19 rfl ?_ ?_
    · intro T D w hB0 hold hdep K hK0
      have hK := Lib.hid hK0
      have q : T[18]?.getD undef = (.pointer (some ⟨b1, 0, none⟩)) := dep hdep 0 (by kernel_rfl) rfl rfl
      have c : w.cell? ⟨b1, 0, none⟩ = some (.slice ta 2 tc) := cells_at ((K4.out.keep hB0).at 3 rfl) 0
      clear hold hdep hK0
      go_simp
      exact hK.out _ _ (Below.refl _ _) rfl
    refine steps_cons 20 rfl ?_ ?_
    · intro T D w hB0 hold hdep K hK0
      have hK := Lib.hid hK0
      have t1 : T[1]?.getD undef = (.pointer (some ⟨b1, 0, none⟩)) := hold 1 rfl
      clear hold hdep hK0
      go_simp
      exact hK.out _ _ (Below.refl _ _) rfl
    refine steps_cons 21 rfl ?_ ?_
    · intro T D w hB0 hold hdep K hK0
      have hK := Lib.hid hK0
      have q : T[20]?.getD undef = (.pointer (some ⟨b1, 1, none⟩)) := dep hdep 2 (by kernel_rfl) rfl rfl
      have c : w.cell? ⟨b1, 1, none⟩ = some (.slice ra 2 rc) := cells_at ((K4.out.keep hB0).at 3 rfl) 1
      clear hold hdep hK0
      go_simp
      exact hK.out _ _ (Below.refl _ _) rfl
    refine steps_cons 22 rfl ?_ ?_
    · intro T D w hB0 hold hdep K hK0
      have hK := Lib.hid hK0
      have qa : T[19]?.getD undef = .slice ta 2 tc := dep hdep 1 (by kernel_rfl) rfl rfl
      have qr : T[21]?.getD undef = .slice ra 2 rc := dep hdep 3 (by kernel_rfl) rfl rfl
      clear hold hdep hK0
      go_simp
      exact hK.out _ _ (Below.refl _ _) ⟨_, _, rfl, (HT.out.keep hB0).types, (HT.out.keep hB0).trans, rfl, (fit40 (c40.getD 0 (ex40, 0)) (List.mem_of_getElem (i := 0) (h := by decide) rfl)).lcs, (fit40 (c40.getD 0 (ex40, 0)) (List.mem_of_getElem (i := 0) (h := by decide) rfl)).trs⟩
    refine steps_cons 23 rfl ?_ ?_
    · intro T D w hB0 hold hdep K hK0
      have hK := Lib.hid hK0
      have t1 : T[1]?.getD undef = (.pointer (some ⟨b1, 0, none⟩)) := hold 1 rfl
      clear hold hdep hK0
      go_simp
      exact hK.out _ _ (Below.refl _ _) rfl
    refine steps_cons 24 rfl ?_ ?_
    · intro T D w hB0 hold hdep K hK0
      have hK := Lib.hid hK0
      have q : T[23]?.getD undef = (.pointer (some ⟨b1, 1, none⟩)) := dep hdep 5 (by kernel_rfl) rfl rfl
      have c : w.cell? ⟨b1, 1, none⟩ = some (.slice ra 2 rc) := cells_at ((K4.out.keep hB0).at 3 rfl) 1
      clear hold hdep hK0
      go_simp
      exact hK.out _ _ (Below.refl _ _) rfl
    refine steps_cons 25 rfl ?_ ?_
    · intro T D w hB0 hold hdep K hK0
      have hK := Lib.hid hK0
      have qr : T[24]?.getD undef = .slice ra 2 rc := dep hdep 6 (by kernel_rfl) rfl rfl
      clear hold hdep hK0
      go_simp
      exact hK.out _ _ (Below.refl _ _) ⟨_, _, rfl, LcV.nil w, (HT.out.keep hB0).trans, rfl, (fit40 (c40.getD 1 (ex40, 0)) (List.mem_of_getElem (i := 1) (h := by decide) rfl)).lcs, (fit40 (c40.getD 1 (ex40, 0)) (List.mem_of_getElem (i := 1) (h := by decide) rfl)).trs⟩
    refine steps_cons 26 rfl ?_ ?_
    · intro T D w hB0 hold hdep K hK0
      have hK := Lib.hid hK0
      clear hold hdep hK0
      go_simp
      refine (CG.out _).mono ?_
      rintro _ V ⟨rfl, hb⟩
      exact hK.out _ _ hb rfl
    refine steps_cons 27 rfl ?_ ?_
    · intro T D w hB0 hold hdep K hK0
      have hK := Lib.hid hK0
      clear hold hdep hK0
      go_simp
      refine (CB.out _).mono ?_
      rintro _ V ⟨rfl, hb⟩
      exact hK.out _ _ hb rfl
    refine steps_cons 28 rfl ?_ ?_
    · intro T D w hB0 hold hdep K hK0
      have hK := Lib.hid hK0
      clear hold hdep hK0
      go_simp
      exact hK.out _ _ (Below.refl _ _) rfl
    refine steps_cons 29 rfl ?_ ?_
    · intro T D w hB0 hold hdep K hK0
      have hK := Lib.hid hK0
      have q0 : T[26]?.getD undef = .agg #[.int .i64 0, .bool false, .string ⟨#[71, 77, 84]⟩] := dep hdep 8 (by kernel_rfl) rfl rfl
      have q1 : T[27]?.getD undef = .agg #[.int .i64 3600, .bool true, .string ⟨#[66, 83, 84]⟩] := dep hdep 9 (by kernel_rfl) rfl rfl
      have q2 : T[28]?.getD undef = .agg #[.int .i64 0, .bool false, .string ⟨#[85, 84, 67]⟩] := dep hdep 10 (by kernel_rfl) rfl rfl
      clear hold hdep hK0
      go_simp
      exact hK.out _ _ ((Below.refl _ w).alloc (Nat.le_refl _) _) (lcs_new w _ 3 [gmtL, bstL, ⟨0, false, bs [85, 84, 67]⟩] rfl (by decide) rfl)
    refine steps_cons 30 rfl ?_ ?_
    · intro T D w hB0 hold hdep K hK0
      have hK := Lib.hid hK0
      have t1 : T[1]?.getD undef = (.pointer (some ⟨b1, 0, none⟩)) := hold 1 rfl
      clear hold hdep hK0
      go_simp
      exact hK.out _ _ (Below.refl _ _) rfl
    refine steps_cons 31 rfl ?_ ?_
    · intro T D w hB0 hold hdep K hK0
      have hK := Lib.hid hK0
      have q : T[30]?.getD undef = (.pointer (some ⟨b1, 1, none⟩)) := dep hdep 12 (by kernel_rfl) rfl rfl
      have c : w.cell? ⟨b1, 1, none⟩ = some (.slice ra 2 rc) := cells_at ((K4.out.keep hB0).at 3 rfl) 1
      clear hold hdep hK0
      go_simp
      exact hK.out _ _ (Below.refl _ _) rfl
    refine steps_cons 32 rfl ?_ ?_
    · intro T D w hB0 hold hdep K hK0
      have hK := Lib.hid hK0
      have la : LcV w (T[29]?.getD undef) [gmtL, bstL, ⟨0, false, bs [85, 84, 67]⟩] := dep hdep 11 (by kernel_rfl) rfl rfl
      have qr : T[31]?.getD undef = .slice ra 2 rc := dep hdep 13 (by kernel_rfl) rfl rfl
      clear hold hdep hK0
      obtain ⟨aa, ac, qa, _, _⟩ := la.slice
      rw [qa] at la
      have hl := Lib.hid la
      clear la
      go_simp
      exact hK.out _ _ (Below.refl _ _) ⟨_, _, rfl, hl.out, (HT.out.keep hB0).trans, rfl, (fit40 (c40.getD 2 (ex40, 0)) (List.mem_of_getElem (i := 2) (h := by decide) rfl)).lcs, (fit40 (c40.getD 2 (ex40, 0)) (List.mem_of_getElem (i := 2) (h := by decide) rfl)).trs⟩
    refine steps_cons 33 rfl ?_ ?_
    · intro T D w hB0 hold hdep K hK0
      have hK := Lib.hid hK0
      clear hold hdep hK0
      go_simp
      refine (CG.out _).mono ?_
      rintro _ V ⟨rfl, hb⟩
      exact hK.out _ _ hb rfl
    refine steps_cons 34 rfl ?_ ?_
    · intro T D w hB0 hold hdep K hK0
      have hK := Lib.hid hK0
      clear hold hdep hK0
      go_simp
      refine (CG.out _).mono ?_
      rintro _ V ⟨rfl, hb⟩
      exact hK.out _ _ hb rfl
    refine steps_cons 35 rfl ?_ ?_
    · intro T D w hB0 hold hdep K hK0
      have hK := Lib.hid hK0
      have q0 : T[33]?.getD undef = .agg #[.int .i64 0, .bool false, .string ⟨#[71, 77, 84]⟩] := dep hdep 15 (by kernel_rfl) rfl rfl
      have q1 : T[34]?.getD undef = .agg #[.int .i64 0, .bool false, .string ⟨#[71, 77, 84]⟩] := dep hdep 16 (by kernel_rfl) rfl rfl
      clear hold hdep hK0
      go_simp
      exact hK.out _ _ ((Below.refl _ w).alloc (Nat.le_refl _) _) (lcs_new w _ 2 [gmtL, gmtL] rfl (by decide) rfl)
    refine steps_cons 36 rfl ?_ ?_
    · intro T D w hB0 hold hdep K hK0
      have hK := Lib.hid hK0
      have t1 : T[1]?.getD undef = (.pointer (some ⟨b1, 0, none⟩)) := hold 1 rfl
      clear hold hdep hK0
      go_simp
      exact hK.out _ _ (Below.refl _ _) rfl
    refine steps_cons 37 rfl ?_ ?_
    · intro T D w hB0 hold hdep K hK0
      have hK := Lib.hid hK0
      have q : T[36]?.getD undef = (.pointer (some ⟨b1, 1, none⟩)) := dep hdep 18 (by kernel_rfl) rfl rfl
      have c : w.cell? ⟨b1, 1, none⟩ = some (.slice ra 2 rc) := cells_at ((K4.out.keep hB0).at 3 rfl) 1
      clear hold hdep hK0
      go_simp
      exact hK.out _ _ (Below.refl _ _) rfl
    refine steps_cons 38 rfl ?_ ?_
    · intro T D w hB0 hold hdep K hK0
      have hK := Lib.hid hK0
      have la : LcV w (T[35]?.getD undef) [gmtL, gmtL] := dep hdep 17 (by kernel_rfl) rfl rfl
      have qr : T[37]?.getD undef = .slice ra 2 rc := dep hdep 19 (by kernel_rfl) rfl rfl
      clear hold hdep hK0
      obtain ⟨aa, ac, qa, _, _⟩ := la.slice
      rw [qa] at la
      have hl := Lib.hid la
      clear la
      go_simp
      exact hK.out _ _ (Below.refl _ _) ⟨_, _, rfl, hl.out, (HT.out.keep hB0).trans, rfl, (fit40 (c40.getD 3 (ex40, 0)) (List.mem_of_getElem (i := 3) (h := by decide) rfl)).lcs, (fit40 (c40.getD 3 (ex40, 0)) (List.mem_of_getElem (i := 3) (h := by decide) rfl)).trs⟩
    refine steps_cons 39 rfl ?_ ?_
    · intro T D w hB0 hold hdep K hK0
      have hK := Lib.hid hK0
      have q : T[2]?.getD undef = (.pointer (some ⟨b2, 0, none⟩)) := hold 2 rfl
      have c : _ := (row3 ((K4.out.keep hB0).at 2 rfl)).1
      clear hold hdep hK0
      obtain ⟨c0, c1, c2⟩ := c
      go_simp
      exact hK.out _ _ (Below.refl _ _) rfl
    refine steps_cons 40 rfl ?_ ?_
    · intro T D w hB0 hold hdep K hK0
      have hK := Lib.hid hK0
      clear hold hdep hK0
      go_simp
      refine (CB.out _).mono ?_
      rintro _ V ⟨rfl, hb⟩
      exact hK.out _ _ hb rfl
    refine steps_cons 41 rfl ?_ ?_
    · intro T D w hB0 hold hdep K hK0
      have hK := Lib.hid hK0
      have q0 : T[39]?.getD undef = .agg #[.int .i64 54001, .bool false, .string ⟨#[71, 77, 84]⟩] := dep hdep 21 (by kernel_rfl) rfl rfl
      have q1 : T[40]?.getD undef = .agg #[.int .i64 3600, .bool true, .string ⟨#[66, 83, 84]⟩] := dep hdep 22 (by kernel_rfl) rfl rfl
      clear hold hdep hK0
      go_simp
      exact hK.out _ _ ((Below.refl _ w).alloc (Nat.le_refl _) _) (lcs_new w _ 2 [⟨54001, false, bs [71, 77, 84]⟩, bstL] rfl (by decide) rfl)
    refine steps_cons 42 rfl ?_ ?_
    · intro T D w hB0 hold hdep K hK0
      have hK := Lib.hid hK0
      have t1 : T[1]?.getD undef = (.pointer (some ⟨b1, 0, none⟩)) := hold 1 rfl
      clear hold hdep hK0
      go_simp
      exact hK.out _ _ (Below.refl _ _) rfl
    refine steps_cons 43 rfl ?_ ?_
    · intro T D w hB0 hold hdep K hK0
      have hK := Lib.hid hK0
      have q : T[42]?.getD undef = (.pointer (some ⟨b1, 1, none⟩)) := dep hdep 24 (by kernel_rfl) rfl rfl
      have c : w.cell? ⟨b1, 1, none⟩ = some (.slice ra 2 rc) := cells_at ((K4.out.keep hB0).at 3 rfl) 1
      clear hold hdep hK0
      go_simp
      exact hK.out _ _ (Below.refl _ _) rfl
    refine steps_cons 44 rfl ?_ ?_
    · intro T D w hB0 hold hdep K hK0
      have hK := Lib.hid hK0
      have la : LcV w (T[41]?.getD undef) [⟨54001, false, bs [71, 77, 84]⟩, bstL] := dep hdep 23 (by kernel_rfl) rfl rfl
      have qr : T[43]?.getD undef = .slice ra 2 rc := dep hdep 25 (by kernel_rfl) rfl rfl
      clear hold hdep hK0
      obtain ⟨aa, ac, qa, _, _⟩ := la.slice
      rw [qa] at la
      have hl := Lib.hid la
      clear la
      go_simp
      exact hK.out _ _ (Below.refl _ _) ⟨_, _, rfl, hl.out, (HT.out.keep hB0).trans, rfl, (fit40 (c40.getD 4 (ex40, 0)) (List.mem_of_getElem (i := 4) (h := by decide) rfl)).lcs, (fit40 (c40.getD 4 (ex40, 0)) (List.mem_of_getElem (i := 4) (h := by decide) rfl)).trs⟩
    refine steps_cons 45 rfl ?_ ?_
    · intro T D w hB0 hold hdep K hK0
      have hK := Lib.hid hK0
      have q : T[3]?.getD undef = (.pointer (some ⟨b3, 0, none⟩)) := hold 3 rfl
      have c : _ := (row3 ((K4.out.keep hB0).at 1 rfl)).1
      clear hold hdep hK0
      obtain ⟨c0, c1, c2⟩ := c
      go_simp
      exact hK.out _ _ (Below.refl _ _) rfl
    refine steps_cons 46 rfl ?_ ?_
    · intro T D w hB0 hold hdep K hK0
      have hK := Lib.hid hK0
      clear hold hdep hK0
      go_simp
      refine (CB.out _).mono ?_
      rintro _ V ⟨rfl, hb⟩
      exact hK.out _ _ hb rfl
    refine steps_cons 47 rfl ?_ ?_
    · intro T D w hB0 hold hdep K hK0
      have hK := Lib.hid hK0
      have q0 : T[45]?.getD undef = .agg #[.int .i64 0, .bool false, .string ⟨#[71, 77]⟩] := dep hdep 27 (by kernel_rfl) rfl rfl
      have q1 : T[46]?.getD undef = .agg #[.int .i64 3600, .bool true, .string ⟨#[66, 83, 84]⟩] := dep hdep 28 (by kernel_rfl) rfl rfl
      clear hold hdep hK0
      go_simp
      exact hK.out _ _ ((Below.refl _ w).alloc (Nat.le_refl _) _) (lcs_new w _ 2 [⟨0, false, bs [71, 77]⟩, bstL] rfl (by decide) rfl)
    refine steps_cons 48 rfl ?_ ?_
    · intro T D w hB0 hold hdep K hK0
      have hK := Lib.hid hK0
      have t1 : T[1]?.getD undef = (.pointer (some ⟨b1, 0, none⟩)) := hold 1 rfl
      clear hold hdep hK0
      go_simp
      exact hK.out _ _ (Below.refl _ _) rfl
    refine steps_cons 49 rfl ?_ ?_
    · intro T D w hB0 hold hdep K hK0
      have hK := Lib.hid hK0
      have q : T[48]?.getD undef = (.pointer (some ⟨b1, 1, none⟩)) := dep hdep 30 (by kernel_rfl) rfl rfl
      have c : w.cell? ⟨b1, 1, none⟩ = some (.slice ra 2 rc) := cells_at ((K4.out.keep hB0).at 3 rfl) 1
      clear hold hdep hK0
      go_simp
      exact hK.out _ _ (Below.refl _ _) rfl
    refine steps_cons 50 rfl ?_ ?_
    · intro T D w hB0 hold hdep K hK0
      have hK := Lib.hid hK0
      have la : LcV w (T[47]?.getD undef) [⟨0, false, bs [71, 77]⟩, bstL] := dep hdep 29 (by kernel_rfl) rfl rfl
      have qr : T[49]?.getD undef = .slice ra 2 rc := dep hdep 31 (by kernel_rfl) rfl rfl
      clear hold hdep hK0
      obtain ⟨aa, ac, qa, _, _⟩ := la.slice
      rw [qa] at la
      have hl := Lib.hid la
      clear la
      go_simp
      exact hK.out _ _ (Below.refl _ _) ⟨_, _, rfl, hl.out, (HT.out.keep hB0).trans, rfl, (fit40 (c40.getD 5 (ex40, 0)) (List.mem_of_getElem (i := 5) (h := by decide) rfl)).lcs, (fit40 (c40.getD 5 (ex40, 0)) (List.mem_of_getElem (i := 5) (h := by decide) rfl)).trs⟩
    refine steps_cons 51 rfl ?_ ?_
    · intro T D w hB0 hold hdep K hK0
      have hK := Lib.hid hK0
      have q : T[4]?.getD undef = (.pointer (some ⟨b4, 0, none⟩)) := hold 4 rfl
      have c : _ := (row3 ((K4.out.keep hB0).at 0 rfl)).1
      clear hold hdep hK0
      obtain ⟨c0, c1, c2⟩ := c
      go_simp
      exact hK.out _ _ (Below.refl _ _) rfl
    refine steps_cons 52 rfl ?_ ?_
    · intro T D w hB0 hold hdep K hK0
      have hK := Lib.hid hK0
      clear hold hdep hK0
      go_simp
      refine (CB.out _).mono ?_
      rintro _ V ⟨rfl, hb⟩
      exact hK.out _ _ hb rfl
    refine steps_cons 53 rfl ?_ ?_
    · intro T D w hB0 hold hdep K hK0
      have hK := Lib.hid hK0
      have q0 : T[51]?.getD undef = .agg #[.int .i64 0, .bool false, .string ⟨#[71, 95, 84]⟩] := dep hdep 33 (by kernel_rfl) rfl rfl
      have q1 : T[52]?.getD undef = .agg #[.int .i64 3600, .bool true, .string ⟨#[66, 83, 84]⟩] := dep hdep 34 (by kernel_rfl) rfl rfl
      clear hold hdep hK0
      go_simp
      exact hK.out _ _ ((Below.refl _ w).alloc (Nat.le_refl _) _) (lcs_new w _ 2 [⟨0, false, bs [71, 95, 84]⟩, bstL] rfl (by decide) rfl)
    refine steps_cons 54 rfl ?_ ?_
    · intro T D w hB0 hold hdep K hK0
      have hK := Lib.hid hK0
      have t1 : T[1]?.getD undef = (.pointer (some ⟨b1, 0, none⟩)) := hold 1 rfl
      clear hold hdep hK0
      go_simp
      exact hK.out _ _ (Below.refl _ _) rfl
    refine steps_cons 55 rfl ?_ ?_
    · intro T D w hB0 hold hdep K hK0
      have hK := Lib.hid hK0
      have q : T[54]?.getD undef = (.pointer (some ⟨b1, 1, none⟩)) := dep hdep 36 (by kernel_rfl) rfl rfl
      have c : w.cell? ⟨b1, 1, none⟩ = some (.slice ra 2 rc) := cells_at ((K4.out.keep hB0).at 3 rfl) 1
      clear hold hdep hK0
      go_simp
      exact hK.out _ _ (Below.refl _ _) rfl
    refine steps_cons 56 rfl ?_ ?_
    · intro T D w hB0 hold hdep K hK0
      have hK := Lib.hid hK0
      have la : LcV w (T[53]?.getD undef) [⟨0, false, bs [71, 95, 84]⟩, bstL] := dep hdep 35 (by kernel_rfl) rfl rfl
      have qr : T[55]?.getD undef = .slice ra 2 rc := dep hdep 37 (by kernel_rfl) rfl rfl
      clear hold hdep hK0
      obtain ⟨aa, ac, qa, _, _⟩ := la.slice
      rw [qa] at la
      have hl := Lib.hid la
      clear la
      go_simp
      exact hK.out _ _ (Below.refl _ _) ⟨_, _, rfl, hl.out, (HT.out.keep hB0).trans, rfl, (fit40 (c40.getD 6 (ex40, 0)) (List.mem_of_getElem (i := 6) (h := by decide) rfl)).lcs, (fit40 (c40.getD 6 (ex40, 0)) (List.mem_of_getElem (i := 6) (h := by decide) rfl)).trs⟩
    refine steps_cons 57 rfl ?_ ?_
    · intro T D w hB0 hold hdep K hK0
      have hK := Lib.hid hK0
      have t1 : T[1]?.getD undef = (.pointer (some ⟨b1, 0, none⟩)) := hold 1 rfl
      clear hold hdep hK0
      go_simp
      exact hK.out _ _ (Below.refl _ _) rfl
    refine steps_cons 58 rfl ?_ ?_
    · intro T D w hB0 hold hdep K hK0
      have hK := Lib.hid hK0
      have q : T[57]?.getD undef = (.pointer (some ⟨b1, 0, none⟩)) := dep hdep 39 (by kernel_rfl) rfl rfl
      have c : w.cell? ⟨b1, 0, none⟩ = some (.slice ta 2 tc) := cells_at ((K4.out.keep hB0).at 3 rfl) 0
      clear hold hdep hK0
      go_simp
      exact hK.out _ _ (Below.refl _ _) rfl
    refine steps_cons 59 rfl ?_ ?_
    · intro T D w hB0 hold hdep K hK0
      have hK := Lib.hid hK0
      clear hold hdep hK0
      go_simp
      exact hK.out _ _ (Below.refl _ _) rfl
    refine steps_cons 60 rfl ?_ ?_
    · intro T D w hB0 hold hdep K hK0
      have hK := Lib.hid hK0
      have q0 : T[59]?.getD undef = .agg #[.int .i64 100, .int .i64 0] := dep hdep 41 (by kernel_rfl) rfl rfl
      clear hold hdep hK0
      go_simp
      exact hK.out _ _ ((Below.refl _ w).alloc (Nat.le_refl _) _) (trs_new w _ 1 [⟨100, 0⟩] rfl (by decide) rfl)
    refine steps_cons 61 rfl ?_ ?_
    · intro T D w hB0 hold hdep K hK0
      have hK := Lib.hid hK0
      have qa : T[58]?.getD undef = .slice ta 2 tc := dep hdep 40 (by kernel_rfl) rfl rfl
      have lr : TrV w (T[60]?.getD undef) [⟨100, 0⟩] := dep hdep 42 (by kernel_rfl) rfl rfl
      clear hold hdep hK0
      obtain ⟨ra', rc', qr, _, _⟩ := lr.slice
      rw [qr] at lr
      have hr := Lib.hid lr
      clear lr
      go_simp
      exact hK.out _ _ (Below.refl _ _) ⟨_, _, rfl, (HT.out.keep hB0).types, hr.out, rfl, (fit40 (c40.getD 7 (ex40, 0)) (List.mem_of_getElem (i := 7) (h := by decide) rfl)).lcs, (fit40 (c40.getD 7 (ex40, 0)) (List.mem_of_getElem (i := 7) (h := by decide) rfl)).trs⟩
    refine steps_cons 62 rfl ?_ ?_
    · intro T D w hB0 hold hdep K hK0
      have hK := Lib.hid hK0
      have t1 : T[1]?.getD undef = (.pointer (some ⟨b1, 0, none⟩)) := hold 1 rfl
      clear hold hdep hK0
      go_simp
      exact hK.out _ _ (Below.refl _ _) rfl
    refine steps_cons 63 rfl ?_ ?_
    · intro T D w hB0 hold hdep K hK0
      have hK := Lib.hid hK0
      have q : T[62]?.getD undef = (.pointer (some ⟨b1, 0, none⟩)) := dep hdep 44 (by kernel_rfl) rfl rfl
      have c : w.cell? ⟨b1, 0, none⟩ = some (.slice ta 2 tc) := cells_at ((K4.out.keep hB0).at 3 rfl) 0
      clear hold hdep hK0
      go_simp
      exact hK.out _ _ (Below.refl _ _) rfl
    refine steps_cons 64 rfl ?_ ?_
    · intro T D w hB0 hold hdep K hK0
      have hK := Lib.hid hK0
      clear hold hdep hK0
      go_simp
      exact hK.out _ _ (Below.refl _ _) rfl
    refine steps_cons 65 rfl ?_ ?_
    · intro T D w hB0 hold hdep K hK0
      have hK := Lib.hid hK0
      have q0 : T[64]?.getD undef = .agg #[.int .i64 100, .int .i64 2] := dep hdep 46 (by kernel_rfl) rfl rfl
      clear hold hdep hK0
      go_simp
      exact hK.out _ _ ((Below.refl _ w).alloc (Nat.le_refl _) _) (trs_new w _ 1 [⟨100, 2⟩] rfl (by decide) rfl)
    refine steps_cons 66 rfl ?_ ?_
    · intro T D w hB0 hold hdep K hK0
      have hK := Lib.hid hK0
      have qa : T[63]?.getD undef = .slice ta 2 tc := dep hdep 45 (by kernel_rfl) rfl rfl
      have lr : TrV w (T[65]?.getD undef) [⟨100, 2⟩] := dep hdep 47 (by kernel_rfl) rfl rfl
      clear hold hdep hK0
      obtain ⟨ra', rc', qr, _, _⟩ := lr.slice
      rw [qr] at lr
      have hr := Lib.hid lr
      clear lr
      go_simp
      exact hK.out _ _ (Below.refl _ _) ⟨_, _, rfl, (HT.out.keep hB0).types, hr.out, rfl, (fit40 (c40.getD 8 (ex40, 0)) (List.mem_of_getElem (i := 8) (h := by decide) rfl)).lcs, (fit40 (c40.getD 8 (ex40, 0)) (List.mem_of_getElem (i := 8) (h := by decide) rfl)).trs⟩
    refine steps_cons 67 rfl ?_ ?_
    · intro T D w hB0 hold hdep K hK0
      have hK := Lib.hid hK0
      have t1 : T[1]?.getD undef = (.pointer (some ⟨b1, 0, none⟩)) := hold 1 rfl
      clear hold hdep hK0
      go_simp
      exact hK.out _ _ (Below.refl _ _) rfl
    refine steps_cons 68 rfl ?_ ?_
    · intro T D w hB0 hold hdep K hK0
      have hK := Lib.hid hK0
      have q : T[67]?.getD undef = (.pointer (some ⟨b1, 0, none⟩)) := dep hdep 49 (by kernel_rfl) rfl rfl
      have c : w.cell? ⟨b1, 0, none⟩ = some (.slice ta 2 tc) := cells_at ((K4.out.keep hB0).at 3 rfl) 0
      clear hold hdep hK0
      go_simp
      exact hK.out _ _ (Below.refl _ _) rfl
    refine steps_cons 69 rfl ?_ ?_
    · intro T D w hB0 hold hdep K hK0
      have hK := Lib.hid hK0
      clear hold hdep hK0
      go_simp
      exact hK.out _ _ (Below.refl _ _) rfl
    refine steps_cons 70 rfl ?_ ?_
    · intro T D w hB0 hold hdep K hK0
      have hK := Lib.hid hK0
      clear hold hdep hK0
      go_simp
      exact hK.out _ _ (Below.refl _ _) rfl
    refine steps_cons 71 rfl ?_ ?_
    · intro T D w hB0 hold hdep K hK0
      have hK := Lib.hid hK0
      have q0 : T[69]?.getD undef = .agg #[.int .i64 200, .int .i64 1] := dep hdep 51 (by kernel_rfl) rfl rfl
      have q1 : T[70]?.getD undef = .agg #[.int .i64 200, .int .i64 0] := dep hdep 52 (by kernel_rfl) rfl rfl
      clear hold hdep hK0
      go_simp
      exact hK.out _ _ ((Below.refl _ w).alloc (Nat.le_refl _) _) (trs_new w _ 2 [⟨200, 1⟩, ⟨200, 0⟩] rfl (by decide) rfl)
    refine steps_cons 72 rfl ?_ ?_
    · intro T D w hB0 hold hdep K hK0
      have hK := Lib.hid hK0
      have qa : T[68]?.getD undef = .slice ta 2 tc := dep hdep 50 (by kernel_rfl) rfl rfl
      have lr : TrV w (T[71]?.getD undef) [⟨200, 1⟩, ⟨200, 0⟩] := dep hdep 53 (by kernel_rfl) rfl rfl
      clear hold hdep hK0
      obtain ⟨ra', rc', qr, _, _⟩ := lr.slice
      rw [qr] at lr
      have hr := Lib.hid lr
      clear lr
      go_simp
      exact hK.out _ _ (Below.refl _ _) ⟨_, _, rfl, (HT.out.keep hB0).types, hr.out, rfl, (fit40 (c40.getD 9 (ex40, 0)) (List.mem_of_getElem (i := 9) (h := by decide) rfl)).lcs, (fit40 (c40.getD 9 (ex40, 0)) (List.mem_of_getElem (i := 9) (h := by decide) rfl)).trs⟩
    refine steps_cons 73 rfl ?_ ?_
    · intro T D w hB0 hold hdep K hK0
      have hK := Lib.hid hK0
      have t1 : T[1]?.getD undef = (.pointer (some ⟨b1, 0, none⟩)) := hold 1 rfl
      clear hold hdep hK0
      go_simp
      exact hK.out _ _ (Below.refl _ _) rfl
    refine steps_cons 74 rfl ?_ ?_
    · intro T D w hB0 hold hdep K hK0
      have hK := Lib.hid hK0
      have q : T[73]?.getD undef = (.pointer (some ⟨b1, 0, none⟩)) := dep hdep 55 (by kernel_rfl) rfl rfl
      have c : w.cell? ⟨b1, 0, none⟩ = some (.slice ta 2 tc) := cells_at ((K4.out.keep hB0).at 3 rfl) 0
      clear hold hdep hK0
      go_simp
      exact hK.out _ _ (Below.refl _ _) rfl
    refine steps_cons 75 rfl ?_ ?_
    · intro T D w hB0 hold hdep K hK0
      have hK := Lib.hid hK0
      have t1 : T[1]?.getD undef = (.pointer (some ⟨b1, 0, none⟩)) := hold 1 rfl
      clear hold hdep hK0
      go_simp
      exact hK.out _ _ (Below.refl _ _) rfl
    refine steps_cons 76 rfl ?_ ?_
    · intro T D w hB0 hold hdep K hK0
      have hK := Lib.hid hK0
      have q : T[75]?.getD undef = (.pointer (some ⟨b1, 1, none⟩)) := dep hdep 57 (by kernel_rfl) rfl rfl
      have c : w.cell? ⟨b1, 1, none⟩ = some (.slice ra 2 rc) := cells_at ((K4.out.keep hB0).at 3 rfl) 1
      clear hold hdep hK0
      go_simp
      exact hK.out _ _ (Below.refl _ _) rfl
    refine steps_cons 77 rfl ?_ ?_
    · intro T D w hB0 hold hdep K hK0
      have hK := Lib.hid hK0
      have qa : T[74]?.getD undef = .slice ta 2 tc := dep hdep 56 (by kernel_rfl) rfl rfl
      have qr : T[76]?.getD undef = .slice ra 2 rc := dep hdep 58 (by kernel_rfl) rfl rfl
      clear hold hdep hK0
      go_simp
      exact hK.out _ _ (Below.refl _ _) ⟨_, _, rfl, (HT.out.keep hB0).types, (HT.out.keep hB0).trans, rfl, (fit40 (c40.getD 10 (ex40, 0)) (List.mem_of_getElem (i := 10) (h := by decide) rfl)).lcs, (fit40 (c40.getD 10 (ex40, 0)) (List.mem_of_getElem (i := 10) (h := by decide) rfl)).trs⟩
    refine steps_cons 78 rfl ?_ ?_
    · intro T D w hB0 hold hdep K hK0
      have hK := Lib.hid hK0
      have t1 : T[1]?.getD undef = (.pointer (some ⟨b1, 0, none⟩)) := hold 1 rfl
      clear hold hdep hK0
      go_simp
      exact hK.out _ _ (Below.refl _ _) rfl
    refine steps_cons 79 rfl ?_ ?_
    · intro T D w hB0 hold hdep K hK0
      have hK := Lib.hid hK0
      have q : T[78]?.getD undef = (.pointer (some ⟨b1, 0, none⟩)) := dep hdep 60 (by kernel_rfl) rfl rfl
      have c : w.cell? ⟨b1, 0, none⟩ = some (.slice ta 2 tc) := cells_at ((K4.out.keep hB0).at 3 rfl) 0
      clear hold hdep hK0
      go_simp
      exact hK.out _ _ (Below.refl _ _) rfl
    refine steps_cons 80 rfl ?_ ?_
    · intro T D w hB0 hold hdep K hK0
      have hK := Lib.hid hK0
      have t1 : T[1]?.getD undef = (.pointer (some ⟨b1, 0, none⟩)) := hold 1 rfl
      clear hold hdep hK0
      go_simp
      exact hK.out _ _ (Below.refl _ _) rfl
    refine steps_cons 81 rfl ?_ ?_
    · intro T D w hB0 hold hdep K hK0
      have hK := Lib.hid hK0
      have q : T[80]?.getD undef = (.pointer (some ⟨b1, 1, none⟩)) := dep hdep 62 (by kernel_rfl) rfl rfl
      have c : w.cell? ⟨b1, 1, none⟩ = some (.slice ra 2 rc) := cells_at ((K4.out.keep hB0).at 3 rfl) 1
      clear hold hdep hK0
      go_simp
      exact hK.out _ _ (Below.refl _ _) rfl
    refine steps_cons 82 rfl ?_ ?_
    · intro T D w hB0 hold hdep K hK0
      have hK := Lib.hid hK0
      have qa : T[79]?.getD undef = .slice ta 2 tc := dep hdep 61 (by kernel_rfl) rfl rfl
      have qr : T[81]?.getD undef = .slice ra 2 rc := dep hdep 63 (by kernel_rfl) rfl rfl
      clear hold hdep hK0
      go_simp
      exact hK.out _ _ (Below.refl _ _) ⟨_, _, rfl, (HT.out.keep hB0).types, (HT.out.keep hB0).trans, rfl, (fit40 (c40.getD 11 (ex40, 0)) (List.mem_of_getElem (i := 11) (h := by decide) rfl)).lcs, (fit40 (c40.getD 11 (ex40, 0)) (List.mem_of_getElem (i := 11) (h := by decide) rfl)).trs⟩
    refine steps_cons 83 rfl ?_ ?_
    · intro T D w hB0 hold hdep K hK0
      have hK := Lib.hid hK0
      have r0 : Kd.S (.row (c40.getD 0 (ex40, 0)).1 0) w (T[22]?.getD undef) := dep hdep 4 (by kernel_rfl) rfl rfl
      have r1 : Kd.S (.row (c40.getD 1 (ex40, 0)).1 4) w (T[25]?.getD undef) := dep hdep 7 (by kernel_rfl) rfl rfl
      have r2 : Kd.S (.row (c40.getD 2 (ex40, 0)).1 4) w (T[32]?.getD undef) := dep hdep 14 (by kernel_rfl) rfl rfl
      have r3 : Kd.S (.row (c40.getD 3 (ex40, 0)).1 10) w (T[38]?.getD undef) := dep hdep 20 (by kernel_rfl) rfl rfl
      have r4 : Kd.S (.row (c40.getD 4 (ex40, 0)).1 3) w (T[44]?.getD undef) := dep hdep 26 (by kernel_rfl) rfl rfl
      have r5 : Kd.S (.row (c40.getD 5 (ex40, 0)).1 15) w (T[50]?.getD undef) := dep hdep 32 (by kernel_rfl) rfl rfl
      have r6 : Kd.S (.row (c40.getD 6 (ex40, 0)).1 15) w (T[56]?.getD undef) := dep hdep 38 (by kernel_rfl) rfl rfl
      have r7 : Kd.S (.row (c40.getD 7 (ex40, 0)).1 2) w (T[61]?.getD undef) := dep hdep 43 (by kernel_rfl) rfl rfl
      have r8 : Kd.S (.row (c40.getD 8 (ex40, 0)).1 2) w (T[66]?.getD undef) := dep hdep 48 (by kernel_rfl) rfl rfl
      have r9 : Kd.S (.row (c40.getD 9 (ex40, 0)).1 12) w (T[72]?.getD undef) := dep hdep 54 (by kernel_rfl) rfl rfl
      have r10 : Kd.S (.row (c40.getD 10 (ex40, 0)).1 16) w (T[77]?.getD undef) := dep hdep 59 (by kernel_rfl) rfl rfl
      have r11 : Kd.S (.row (c40.getD 11 (ex40, 0)).1 5) w (T[82]?.getD undef) := dep hdep 64 (by kernel_rfl) rfl rfl
      clear hold hdep hK0
      obtain ⟨tv0, rv0, e0, h0⟩ := r0
      have z0 := Lib.hid h0
      clear h0
      obtain ⟨tv1, rv1, e1, h1⟩ := r1
      have z1 := Lib.hid h1
      clear h1
      obtain ⟨tv2, rv2, e2, h2⟩ := r2
      have z2 := Lib.hid h2
      clear h2
      obtain ⟨tv3, rv3, e3, h3⟩ := r3
      have z3 := Lib.hid h3
      clear h3
      obtain ⟨tv4, rv4, e4, h4⟩ := r4
      have z4 := Lib.hid h4
      clear h4
      obtain ⟨tv5, rv5, e5, h5⟩ := r5
      have z5 := Lib.hid h5
      clear h5
      obtain ⟨tv6, rv6, e6, h6⟩ := r6
      have z6 := Lib.hid h6
      clear h6
      obtain ⟨tv7, rv7, e7, h7⟩ := r7
      have z7 := Lib.hid h7
      clear h7
      obtain ⟨tv8, rv8, e8, h8⟩ := r8
      have z8 := Lib.hid h8
      clear h8
      obtain ⟨tv9, rv9, e9, h9⟩ := r9
      have z9 := Lib.hid h9
      clear h9
      obtain ⟨tv10, rv10, e10, h10⟩ := r10
      have z10 := Lib.hid h10
      clear h10
      obtain ⟨tv11, rv11, e11, h11⟩ := r11
      have z11 := Lib.hid h11
      clear h11
      obtain ⟨a0, n0, rfl, _, _⟩ := z0.out.types.slice
      obtain ⟨a0', n0', rfl, _, _⟩ := z0.out.trans.slice
      obtain ⟨a1, n1, rfl, _, _⟩ := z1.out.types.slice
      obtain ⟨a1', n1', rfl, _, _⟩ := z1.out.trans.slice
      obtain ⟨a2, n2, rfl, _, _⟩ := z2.out.types.slice
      obtain ⟨a2', n2', rfl, _, _⟩ := z2.out.trans.slice
      obtain ⟨a3, n3, rfl, _, _⟩ := z3.out.types.slice
      obtain ⟨a3', n3', rfl, _, _⟩ := z3.out.trans.slice
      obtain ⟨a4, n4, rfl, _, _⟩ := z4.out.types.slice
      obtain ⟨a4', n4', rfl, _, _⟩ := z4.out.trans.slice
      obtain ⟨a5, n5, rfl, _, _⟩ := z5.out.types.slice
      obtain ⟨a5', n5', rfl, _, _⟩ := z5.out.trans.slice
      obtain ⟨a6, n6, rfl, _, _⟩ := z6.out.types.slice
      obtain ⟨a6', n6', rfl, _, _⟩ := z6.out.trans.slice
      obtain ⟨a7, n7, rfl, _, _⟩ := z7.out.types.slice
      obtain ⟨a7', n7', rfl, _, _⟩ := z7.out.trans.slice
      obtain ⟨a8, n8, rfl, _, _⟩ := z8.out.types.slice
      obtain ⟨a8', n8', rfl, _, _⟩ := z8.out.trans.slice
      obtain ⟨a9, n9, rfl, _, _⟩ := z9.out.types.slice
      obtain ⟨a9', n9', rfl, _, _⟩ := z9.out.trans.slice
      obtain ⟨a10, n10, rfl, _, _⟩ := z10.out.types.slice
      obtain ⟨a10', n10', rfl, _, _⟩ := z10.out.trans.slice
      obtain ⟨a11, n11, rfl, _, _⟩ := z11.out.types.slice
      obtain ⟨a11', n11', rfl, _, _⟩ := z11.out.trans.slice
      go_simp
      exact hK.out _ _ (alloc_below w _) ⟨w.heap.size, _, rfl, ((Kp.start w).alloc _).at 0 rfl, rfl, rfl, z0.out.keep (alloc_below w _), rfl, rfl, z1.out.keep (alloc_below w _), rfl, rfl, z2.out.keep (alloc_below w _), rfl, rfl, z3.out.keep (alloc_below w _), rfl, rfl, z4.out.keep (alloc_below w _), rfl, rfl, z5.out.keep (alloc_below w _), rfl, rfl, z6.out.keep (alloc_below w _), rfl, rfl, z7.out.keep (alloc_below w _), rfl, rfl, z8.out.keep (alloc_below w _), rfl, rfl, z9.out.keep (alloc_below w _), rfl, rfl, z10.out.keep (alloc_below w _), rfl, rfl, z11.out.keep (alloc_below w _), trivial⟩
    refine steps_cons 84 rfl ?_ ?_
    · intro T D w hB0 hold hdep K hK0
      have hK := Lib.hid hK0
      have r : Kd.S (.rows c40) w (T[83]?.getD undef) := dep hdep 65 (by kernel_rfl) rfl rfl
      clear hold hdep hK0
      obtain ⟨rn, rcs, q, _, _⟩ := r
      rw [show c40.length = 12 from rfl] at q
      go_simp
      exact hK.out _ _ (Below.refl _ _) rfl
    refine steps_cons 85 rfl ?_ ?_
    · intro T D w hB0 hold hdep K hK0
      have hK := Lib.hid hK0
      clear hold hdep hK0
      go_simp
      exact hK.out _ _ (Below.refl _ _) rfl
    exact steps_nil
  case hend =>
    intro T w hsz hB0 hold hS
    obtain ⟨n, cs, e83, hh, hro⟩ := (show Kd.S (.rows c40) w (T[83]?.getD undef) from hS 83 (by rfl))
    have e84 : T[84]?.getD undef = .int .i64 12 := hS 84 (by rfl)
    have e85 : T[85]?.getD undef = .int .i64 0 := hS 85 (by rfl)
    have t1 : T[1]?.getD undef = (.pointer (some ⟨b1, 0, none⟩)) := hold 1 (by rfl)
    rw [show c40.length = 12 from rfl] at e83
    obtain ⟨G, hG⟩ : ∃ G : Nat → Value, ∀ t, T[t]?.getD undef = G t := ⟨_, fun _ => rfl⟩
    have e := tmps_lit T 138 hsz
    simp only [hG] at e
    have e' : T = #[G 0, G 1, G 2, G 3, G 4, G 5, G 6, G 7, G 8, G 9, G 10, G 11, G 12, G 13, G 14, G 15, G 16, G 17, G 18, G 19, G 20, G 21, G 22, G 23, G 24, G 25, G 26, G 27, G 28, G 29, G 30, G 31, G 32, G 33, G 34, G 35, G 36, G 37, G 38, G 39, G 40, G 41, G 42, G 43, G 44, G 45, G 46, G 47, G 48, G 49, G 50, G 51, G 52, G 53, G 54, G 55, G 56, G 57, G 58, G 59, G 60, G 61, G 62, G 63, G 64, G 65, G 66, G 67, G 68, G 69, G 70, G 71, G 72, G 73, G 74, G 75, G 76, G 77, G 78, G 79, G 80, G 81, G 82, G 83, G 84, G 85, G 86, G 87, G 88, G 89, G 90, G 91, G 92, G 93, G 94, G 95, G 96, G 97, G 98, G 99, G 100, G 101, G 102, G 103, G 104, G 105, G 106, G 107, G 108, G 109, G 110, G 111, G 112, G 113, G 114, G 115, G 116, G 117, G 118, G 119, G 120, G 121, G 122, G 123, G 124, G 125, G 126, G 127, G 128, G 129, G 130, G 131, G 132, G 133, G 134, G 135, G 136, G 137] := e.trans rfl
    rw [hG] at e83 e84 e85 t1
    have K5 := Lib.hid (K4.out.keep hB0)
    have HH := Lib.hid hh
    have HRo := Lib.hid hro
    clear hold hS e hG hsz hB0
    rw [e', t1, e83, e84, e85]
    clear e' t1 e83 e84 e85 hh hro
    have hn := lt_of_block HH.out
    have CK := Lib.hid (fun (x : Tab) tv rv w h hE => tcheck_any x tv rv (bs x.foot) w h hE)
    go_wp2_with fail
    go_loopw [6, 85] (fun _ v85 wr => ∃ k : Nat, k ≤ 12 ∧ v85 = .int .i64 k ∧ Below w.heap.size w wr) (fun _ v85 _ => 12 - (intOf v85).toNat)
    case atStart => exact ⟨0, by omega, rfl, Below.refl _ _⟩
    case round =>
      obtain ⟨k, hk, rfl, hb⟩ := hrel
      have HB := Lib.hid hb
      have KW := Lib.hid (K5.out.keep hb)
      clear hb
      by_cases hlt : k < 12
      · obtain ⟨⟨x, E⟩, hx⟩ : ∃ y, c40[k]? = some y := ⟨_, List.getElem?_eq_getElem hlt⟩
        obtain ⟨tvk, rvk, i0, i1, i2, i3, ht⟩ := rowsOk_at c40 cs.toList k x E (rowsOk_keep HB.out _ _ HRo.out) hx
        have hxE : checkE x = E := of_decide_eq_true (List.all_eq_true.1 c40_all (x, E) (List.mem_of_getElem? hx))
        obtain ⟨fk, hfk⟩ : ∃ f, bs x.foot = f := ⟨_, rfl⟩
        have CX := CK.out x
        rw [hfk] at ht i2 CX
        rw [hxE] at CX
        obtain ⟨xa, xc, hxv, _, _⟩ := ht.types.slice
        obtain ⟨ya, yc, hyv, _, _⟩ := ht.trans.slice
        obtain ⟨xm, hxm⟩ : ∃ m, x.types.length = m := ⟨_, rfl⟩
        obtain ⟨ym, hym⟩ : ∃ m, x.trans.length = m := ⟨_, rfl⟩
        rw [hxm] at hxv
        rw [hym] at hyv
        subst hxv hyv
        have hhr := (HB.out.block n hn).trans HH.out
        rw [Array.getElem?_toList] at i0 i1 i2 i3
        have c0 := (cells_at hhr (k * 4)).trans i0
        have c1 := (cells_at hhr (k * 4 + 1)).trans i1
        have c2 := (cells_at hhr (k * 4 + 2)).trans i2
        have c3 := (cells_at hhr (k * 4 + 3)).trans i3
        have hnr : n < wr.heap.size := Nat.lt_of_lt_of_le hn HB.out.size
        have j1 : (k : Int) < 12 := by omega
        have HT2 := Lib.hid ht
        have CX2 := Lib.hid CX
        have KA := Lib.hid (KW.out.alloc (.cells #[.slice xa xm xc, .slice ya ym yc, .string fk, .int .i64 E] 114))
        clear hx i0 i1 i2 i3 ht hxE hfk CX hxm hym hhr
        go_upto_region 7 with fail
        clear c0 c1 c2 c3
        obtain ⟨wz, hwz⟩ : ∃ z, wr.alloc (.cells #[.slice xa xm xc, .slice ya ym yc, .string fk, .int .i64 E] 114) = z := ⟨_, rfl⟩
        rw [hwz] at KA ⊢
        have hBz : Below wr.heap.size wr wz := by rw [← hwz]; exact (Below.refl _ _).alloc (Nat.le_refl _) _
        have HBz := Lib.hid hBz
        clear hwz hBz
        go_cut [99] (fun v wx => v = .bool false ∧ Below wz.heap.size wz wx)
        case first =>
          go_region_held3 (fun w' => w'.cell? ⟨wr.heap.size, 0, none⟩ = some (.slice xa xm xc) ∧ w'.cell? ⟨wr.heap.size, 1, none⟩ = some (.slice ya ym yc) ∧ w'.cell? ⟨wr.heap.size, 2, none⟩ = some (.string fk) ∧ w'.cell? ⟨wr.heap.size, 3, none⟩ = some (.int .i64 E) ∧ Below wz.heap.size wz w')
            (first | exact row_keep4 0 KA.out rfl HX0.out | exact row_keep4 0 KA.out rfl (bdrew4 _))
            (first | (go_at_call 32; refine (CX2.out _ _ _ (HT2.out.keep (HBz.out.trans ((bdrew4 wz).mono HBz.out.size))) (HE.out.keep (KA.out.keep (bdrew4 _)).below)).mono ?_; rintro e X ⟨rfl, hb⟩; have HX0 : Hid (Below wz.heap.size wz X) := Lib.hid (below_over hb rfl rfl rfl rfl); clear hb))
          all_goals
            go_wp2_with fail
            go_meet
            exact ⟨by simp, HX0.out⟩
        case rest =>
          obtain ⟨rfl, hb⟩ := hcut
          have HBc := Lib.hid (HB.out.trans ((HBz.out.trans (hb.mono HBz.out.size)).mono HB.out.size))
          clear hb
          go_wp2_with fail
          go_roundw
          case rel => exact ⟨k + 1, by omega, by go_num, HBc.out⟩
          case measure => simp [intOf]; omega
      · obtain rfl : k = 12 := by omega
        clear CK
        go_wp2_with fail
        refine (CG.out _).mono ?_
        rintro _ V6 ⟨rfl, hb⟩
        have KI := Lib.hid (((KW.out.keep hb).alloc (.cells #[.int .i64 50, .int .i64 100, .int .i64 150, .int .i64 200] 2)).own_block 1 4 4 (by omega) (by unfold maxLen; omega) rfl)
        clear hb
        go_wp2_with fail
        refine (CG.out _).mono ?_
        rintro _ V7 ⟨rfl, hb⟩
        have K7 := Lib.hid (KI.out.keep hb)
        clear hb
        go_wp2_with fail
        refine (CB.out _).mono ?_
        rintro _ V8 ⟨rfl, hb⟩
        have K8 := Lib.hid (K7.out.keep hb)
        clear hb
        go_wp2_with fail
        refine (CB.out _).mono ?_
        rintro _ V9 ⟨rfl, hb⟩
        have K9 := Lib.hid (K8.out.keep hb)
        clear hb
        go_wp2_with fail
        refine (CG.out _).mono ?_
        rintro _ V10 ⟨rfl, hb⟩
        have KL := Lib.hid (((K9.out.keep hb).alloc (.cells #[.int .i64 0, .bool false, .string ⟨#[71, 77, 84]⟩, .int .i64 3600, .bool true, .string ⟨#[66, 83, 84]⟩, .int .i64 3600, .bool true, .string ⟨#[66, 83, 84]⟩, .int .i64 0, .bool false, .string ⟨#[71, 77, 84]⟩] 28)).own_block 3 4 4 (by omega) (by unfold maxLen; omega) rfl)
        clear hb
        have CO := of_any gmtL [50, 100, 150, 200] [gmtL, bstL, bstL, gmtL] (.slice (some ⟨V6.heap.size, 0, none⟩) 4 4) (.slice (some ⟨V10.heap.size, 0, none⟩) 4 4) gmt0 _ (IsV.own (KL.out.row 1 rfl) rfl) (LcV.own (KL.out.row 0 rfl) rfl) (fun c e => by cases e) fit4.1 fit4.2.1 fit4.2.2 (HE.out.keep KL.out.below) (by decide)
        rw [ex40_made] at CO
        dsimp only at CO
        rw [show bs ex40.foot = (⟨#[71, 77, 84, 48]⟩ : ByteArray) from rfl] at CO
        go_wp2_with fail
        refine (show Calls Tryz.prog 21 #[(.agg #[.int .i64 0, .bool false, .string ⟨#[71, 77, 84]⟩]), .slice (some ⟨V6.heap.size, 0, none⟩) 4 4, .slice (some ⟨V10.heap.size, 0, none⟩) 4 4, .string ⟨#[71, 77, 84, 48]⟩] _ _ from CO).mono ?_
        rintro _ V11 ⟨tv, rv, rfl, hk, hf⟩
        have hk1 := (KL.out.less (List.Sublist.cons _ (List.Sublist.cons _ (List.Sublist.refl _)))).adopt hk
        obtain ⟨ua, uc, rfl⟩ : ∃ a c, tv = .slice a 2 c := own_slice (hk1.row 1 rfl)
        obtain ⟨va, vc, rfl⟩ : ∃ a c, rv = .slice a 2 c := own_slice (hk1.row 0 rfl)
        have K12 := Lib.hid (hk1.alloc (.cells #[.slice ua 2 uc, .slice va 2 vc, .string ⟨#[71, 77, 84, 48]⟩] 25))
        clear hk hk1 hf CO
        have HTA := Lib.hid (fun (X : World) (L : List (Nat × Obj)) (h : Kp L (tabR (.slice ua 2 uc) (.slice va 2 vc) ex40 ++ (tabR (.slice ta 2 tc) (.slice ra 2 rc) ex40)) W X) => (show TabV X (.slice ua 2 uc) (.slice va 2 vc) (bs gmt0) ex40 ∧ TabV X (.slice ta 2 tc) (.slice ra 2 rc) (bs gmt0) ex40 from ⟨⟨LcV.own (h.row 1 rfl) rfl, TrV.own (h.row 0 rfl) rfl, rfl, (fit40 _ (List.mem_cons_self ..)).lcs, (fit40 _ (List.mem_cons_self ..)).trs⟩, ⟨LcV.own (h.row 3 rfl) rfl, TrV.own (h.row 2 rfl) rfl, rfl, (fit40 _ (List.mem_cons_self ..)).lcs, (fit40 _ (List.mem_cons_self ..)).trs⟩⟩))
        obtain ⟨⟨x0, x1, x2⟩, _, _, _⟩ := row3 (K12.out.at 4 rfl)
        have CT := Lib.hid (ttext_any ex40 (.slice ta 2 tc) (.slice ra 2 rc) ⟨#[71, 77, 84, 48]⟩)
        rw [ex40_text] at CT
        have CS1 := Lib.hid (same_any ex40 ex40 (.slice ua 2 uc) (.slice va 2 vc) (.slice ta 2 tc) (.slice ra 2 rc) ⟨#[71, 77, 84, 48]⟩ ⟨#[71, 77, 84, 48]⟩)
        rw [show sameB ex40 ex40 = true from by kernel_rfl] at CS1
        have CS2 := Lib.hid (same_any ex40 ⟨[], [], []⟩ (.slice ta 2 tc) (.slice ra 2 rc) (.slice none 0 0) (.slice none 0 0) ⟨#[71, 77, 84, 48]⟩ ⟨#[]⟩)
        rw [show sameB ex40 ⟨[], [], []⟩ = false from by kernel_rfl] at CS2
        go_wp2_with fail
        refine (CT.out _ (HTA.out _ _ K12.out).2 (HE.out.keep K12.out.below) (by decide)).mono ?_
        rintro _ V12 ⟨rfl, hb⟩
        have K13 := Lib.hid (K12.out.keep hb)
        clear hb x0 x1 x2
        obtain ⟨⟨x0, x1, x2⟩, _, _, _⟩ := row3 (K13.out.at 4 rfl)
        obtain ⟨⟨y0, y1, y2⟩, _, _, _⟩ := row3 (K13.out.at 0 rfl)
        go_wp2_with fail
        refine (CS1.out _ (HTA.out _ _ K13.out).1 (HTA.out _ _ K13.out).2).mono ?_
        rintro _ V13 ⟨rfl, hb⟩
        have K14 := Lib.hid (K13.out.keep hb)
        clear hb x0 x1 x2 y0 y1 y2
        obtain ⟨⟨x0, x1, x2⟩, _, _, _⟩ := row3 (K14.out.at 4 rfl)
        go_wp2_with fail
        refine (CS2.out _ (HTA.out _ _ K14.out).2 (empty_tab _)).mono ?_
        rintro _ V14 ⟨rfl, hb⟩
        have K15 := Lib.hid (K14.out.keep hb)
        clear hb x0 x1 x2
        go_wp2_with fail
        go_ret
        exact ⟨by kernel_rfl, K15.out.below⟩
end Go.Proofs.YtlaplgaccjmbhaaGreatDoor.Px

