/- A region that draws its order, whose operations each have a slot of their own: what the slots hold at the end, whatever the order. No program in sight. A region that draws its order and appends to slices that the call owns: what the slots and the slices hold at the end, whatever the order. A region that draws its order, appends to slices that the call owns, and ends in operations that wait for all before them (the stores of a statement). -/
import Derived.Test.YtnffecoohkanhaaDoorM11
import Derived.Below
import Derived.Test.YtnffecoohkanhaaDoorYKa
namespace Go.Proofs.YtnffecoohkanhaaDoor.Py
open Px
open Go.RowKit

section
variable {P : Program} {ops : Array Oper} {Q : Exit → Act → World → Prop} {md : Region.Mode}
def dstsOf (ops : Array Oper) : List Nat := ops.toList.filterMap (·.dst)
/-- each operation has a slot of its own and no guard, and stands behind those that it waits for -/
def slotsOk (ops : Array Oper) (n : Nat) : Bool :=
  (List.range ops.size).all (fun i => match ops[i]? with | some o => (match o.dst with | some d => decide (d < n) | none => false) && o.guard.isNone && o.after.all (fun e => decide (e.on < i)) | none => true) &&
  decide ((ops.toList.map (·.dst)).Nodup)
/-- what the slots of the operations that are listed hold -/
structure RI (w0 : World) (a0 : Act) (ops : Array Oper) (S : Nat → World → Value → Prop) (listed : Array Bool) (a : Act) (w : World) : Prop where
  below : Below w0.heap.size w0 w
  defers : a.defers = a0.defers
  size : a.tmps.size = a0.tmps.size
  old : ∀ t, (dstsOf ops).contains t = false → a.tmps[t]?.getD undef = a0.tmps[t]?.getD undef
  got : ∀ (i : Nat) (o : Oper) (d : Nat), ops[i]? = some o → o.dst = some d → listed.getD i false = true → S d w (a.tmps[d]?.getD undef)
theorem slots_op {n : Nat} (h : slotsOk ops n = true) {i : Nat} {o : Oper} (ho : ops[i]? = some o) : (∃ d, o.dst = some d ∧ d < n) ∧ o.guard = none ∧ ∀ e ∈ o.after, e.on < i := by
  unfold slotsOk at h
  rw [Bool.and_eq_true] at h
  have hi : i < ops.size := (Array.getElem?_eq_some_iff.1 ho).1
  have h1 := List.all_eq_true.1 h.1 i (List.mem_range.2 hi)
  rw [ho] at h1
  simp only [Bool.and_eq_true, Option.isNone_iff_eq_none, Array.all_eq_true_iff_forall_mem, decide_eq_true_eq] at h1
  obtain ⟨⟨h2, h3⟩, h4⟩ := h1
  refine ⟨?_, h3, h4⟩
  cases hd : o.dst with
  | none => rw [hd] at h2; cases h2
  | some d => rw [hd] at h2; exact ⟨d, rfl, by simpa using h2⟩
theorem slots_ne {n : Nat} (h : slotsOk ops n = true) {i j : Nat} {o o' : Oper} {d : Nat} (ho : ops[i]? = some o) (ho' : ops[j]? = some o') (hd : o.dst = some d) (hd' : o'.dst = some d) : i = j := by
  unfold slotsOk at h
  rw [Bool.and_eq_true] at h
  have hn := of_decide_eq_true h.2
  have e1 : (ops.toList.map (·.dst))[i]? = some (some d) := by rw [List.getElem?_map, Array.getElem?_toList, ho, Option.map_some, hd]
  have e2 : (ops.toList.map (·.dst))[j]? = some (some d) := by rw [List.getElem?_map, Array.getElem?_toList, ho', Option.map_some, hd']
  have l1 := (List.getElem?_eq_some_iff.1 e1)
  have l2 := (List.getElem?_eq_some_iff.1 e2)
  obtain ⟨b1, c1⟩ := l1
  obtain ⟨b2, c2⟩ := l2
  exact (List.getElem_inj hn).1 (c1.trans c2.symm)
theorem dst_mem {i : Nat} {o : Oper} {d : Nat} (ho : ops[i]? = some o) (hd : o.dst = some d) : (dstsOf ops).contains d = true := by
  unfold dstsOf
  rw [List.contains_eq_mem]
  exact decide_eq_true (List.mem_filterMap.2 ⟨o, Array.mem_toList_iff.2 (Array.mem_of_getElem? ho), hd⟩)
theorem mem_dst {d : Nat} (h : (dstsOf ops).contains d = true) : ∃ (i : Nat) (o : Oper), ops[i]? = some o ∧ o.dst = some d := by
  unfold dstsOf at h
  rw [List.contains_eq_mem] at h
  obtain ⟨o, ho, hd⟩ := List.mem_filterMap.1 (of_decide_eq_true h)
  obtain ⟨i, hi, e⟩ := List.getElem_of_mem ho
  refine ⟨i, o, ?_, hd⟩
  rw [← Array.getElem?_toList, List.getElem?_eq_getElem hi, e]
theorem RI.put {w0 : World} {a0 : Act} {S : Nat → World → Value → Prop} {listed : Array Bool} {a : Act} {w w' : World} (h : RI w0 a0 ops S listed a w) (hok : slotsOk ops a0.tmps.size = true)
    (mono : ∀ d w w' v, S d w v → Below w.heap.size w w' → S d w' v) {i : Nat} {o : Oper} {d : Nat} (ho : ops[i]? = some o) (hd : o.dst = some d) {v : Value} (hB : Below w.heap.size w w') (hv : S d w' v) :
    RI w0 a0 ops S (listed.setIfInBounds i true) (a.put (some d) v) w' := by
  have hdn : d < a.tmps.size := by
    obtain ⟨⟨d', e, hlt⟩, _⟩ := slots_op hok ho
    rw [hd] at e
    cases e
    rw [h.size]
    exact hlt
  refine ⟨h.below.trans (hB.mono h.below.size), h.defers, by simp [Act.put, h.size], fun t ht => ?_, fun j o' d' ho' hd' hj => ?_⟩
  · have hne : d ≠ t := fun e => by rw [← e, dst_mem ho hd] at ht; cases ht
    show (a.tmps.setIfInBounds d v)[t]?.getD undef = _
    rw [Array.getElem?_setIfInBounds_ne hne]
    exact h.old t ht
  · show S d' w' ((a.tmps.setIfInBounds d v)[d']?.getD undef)
    by_cases hij : i = j
    · subst hij
      rw [ho] at ho'
      cases ho'
      rw [hd] at hd'
      cases hd'
      rw [Array.getElem?_setIfInBounds_self_of_lt hdn]
      exact hv
    · have hne : d ≠ d' := fun e => hij (slots_ne hok ho ho' hd (by rw [e]; exact hd'))
      rw [Array.getElem?_setIfInBounds_ne hne]
      refine mono _ _ _ _ (h.got j o' d' ho' hd' ?_) hB
      rwa [getD_set_ne false hij] at hj
/-- the law -/
theorem wp_region_slots {id : Nat} {a0 : Act} {w0 : World} (hm : P.follows .mixedOrders = true) (S : Nat → World → Value → Prop) (hok : slotsOk ops a0.tmps.size = true)
    (mono : ∀ d w w' v, S d w v → Below w.heap.size w w' → S d w' v)
    (step : ∀ (i : Nat) (o : Oper) (d : Nat), ops[i]? = some o → o.dst = some d → ∀ (T : Array Value) (D : List Deferred) (w : World), Below w0.heap.size w0 w →
      (∀ t, (dstsOf ops).contains t = false → T[t]?.getD undef = a0.tmps[t]?.getD undef) →
      (∀ e ∈ o.after, Region.binds .any e = true → ∀ (o' : Oper) (d' : Nat), ops[e.on]? = some o' → o'.dst = some d' → S d' w (T[d']?.getD undef)) →
      ∀ K : Act → World → Prop, (∀ v w', Below w.heap.size w w' → S d w' v → K (Act.put ⟨T, D⟩ (some d) v) w') → o.wp P ⟨T, D⟩ w K Q)
    (hend : ∀ (T : Array Value) (w : World), T.size = a0.tmps.size → Below w0.heap.size w0 w → (∀ t, (dstsOf ops).contains t = false → T[t]?.getD undef = a0.tmps[t]?.getD undef) →
      (∀ d, (dstsOf ops).contains d = true → S d w (T[d]?.getD undef)) → Q .normal ⟨T, a0.defers⟩ w) : (Code.region id ops true).wp P Q a0 w0 := by
  refine wp_region_inv hm (RI w0 a0 ops S) ?_ ?_ ?_
  · refine ⟨⟨rfl, rfl, rfl, Nat.le_refl _, fun _ _ => rfl⟩, rfl, rfl, fun _ _ => rfl, fun i o d ho hd hi => ?_⟩
    have hlt : i < ops.size := (Array.getElem?_eq_some_iff.1 ho).1
    simp [hlt] at hi
  · intro listed a w i hs hI hi
    obtain ⟨h1, h2, h3⟩ := ready_mem hi
    have ho : ops[i]? = some ops[i] := Array.getElem?_eq_getElem h1
    obtain ⟨⟨d, hd, _⟩, hg, _⟩ := slots_op hok ho
    refine wpOp_step ho fun K hK => ?_
    rw [if_pos (by unfold Region.wanted; rw [hg])]
    refine step i ops[i] d ho hd a.tmps a.defers w hI.below hI.old (fun e he hb o' d' ho' hd' => hI.got e.on o' d' ho' hd' (h3 _ ho e he hb)) K fun v w' hB hv => ?_
    have hp := hI.put hok mono ho hd hB hv
    exact hK _ _ hp
  · intro listed a w hs hI hr
    have hall := all_listed hs (fun i o ho => (slots_op hok ho).2.2) hr
    have := hend a.tmps w hI.size hI.below hI.old fun d hd => by
      obtain ⟨i, o, ho, hd'⟩ := mem_dst hd
      exact hI.got i o d ho hd' (hall i (Array.getElem?_eq_some_iff.1 ho).1)
    have he := hI.defers
    obtain ⟨T, D⟩ := a
    simp only at he
    subst he
    exact this
/-- what the slot of an operation holds that stands behind operation number k -/
theorem dep {o : Oper} {S : Nat → World → Value → Prop} {w : World} {T : Array Value} (h : ∀ e ∈ o.after, Region.binds .any e = true → ∀ (o' : Oper) (d' : Nat), ops[e.on]? = some o' → o'.dst = some d' → S d' w (T[d']?.getD undef)) (k : Nat)
    (hk : o.after.any (fun e => e.on == k && Region.binds .any e) = true) {o' : Oper} {d' : Nat} (ho : ops[k]? = some o') (hd : o'.dst = some d') : S d' w (T[d']?.getD undef) := by
  obtain ⟨e, he, hb⟩ := Array.any_eq_true'.1 hk
  simp only [Bool.and_eq_true, beq_iff_eq] at hb
  exact h e he hb.2 o' d' (by rw [hb.1]; exact ho) hd
/-- one operation of the region -/
def StepOk (P : Program) (ops : Array Oper) (Q : Exit → Act → World → Prop) (a0 : Act) (w0 : World) (S : Nat → World → Value → Prop) (o : Oper) (d : Nat) : Prop :=
  ∀ (T : Array Value) (D : List Deferred) (w : World), Below w0.heap.size w0 w →
      (∀ t, (dstsOf ops).contains t = false → T[t]?.getD undef = a0.tmps[t]?.getD undef) →
      (∀ e ∈ o.after, Region.binds .any e = true → ∀ (o' : Oper) (d' : Nat), ops[e.on]? = some o' → o'.dst = some d' → S d' w (T[d']?.getD undef)) →
      ∀ K : Act → World → Prop, (∀ v w', Below w.heap.size w w' → S d w' v → K (Act.put ⟨T, D⟩ (some d) v) w') → o.wp P ⟨T, D⟩ w K Q
def StepsOk (P : Program) (ops : Array Oper) (Q : Exit → Act → World → Prop) (a0 : Act) (w0 : World) (S : Nat → World → Value → Prop) : List Oper → Prop
  | [] => True
  | o :: r => (∀ d, o.dst = some d → StepOk P ops Q a0 w0 S o d) ∧ StepsOk P ops Q a0 w0 S r
theorem steps_nil {a0 : Act} {w0 : World} {S : Nat → World → Value → Prop} : StepsOk P ops Q a0 w0 S [] := trivial
theorem steps_cons {a0 : Act} {w0 : World} {S : Nat → World → Value → Prop} {o : Oper} {r : List Oper} (d : Nat) (hd : o.dst = some d) (h : StepOk P ops Q a0 w0 S o d) (hr : StepsOk P ops Q a0 w0 S r) : StepsOk P ops Q a0 w0 S (o :: r) :=
  ⟨fun d' hd' => by rw [hd] at hd'; cases hd'; exact h, hr⟩
theorem steps_at {a0 : Act} {w0 : World} {S : Nat → World → Value → Prop} : ∀ {r : List Oper} {i : Nat} {o : Oper} {d : Nat}, StepsOk P ops Q a0 w0 S r → r[i]? = some o → o.dst = some d → StepOk P ops Q a0 w0 S o d
  | [], _, _, _, _, h, _ => by simp at h
  | x :: r, 0, o, d, h, ho, hd => by
    simp only [List.getElem?_cons_zero, Option.some.injEq] at ho
    subst ho
    exact h.1 d hd
  | x :: r, i + 1, o, d, h, ho, hd => steps_at h.2 (by simpa using ho) hd
/-- the law, the operations one by one -/
theorem wp_region_steps {id : Nat} {a0 : Act} {w0 : World} (hm : P.follows .mixedOrders = true) (S : Nat → World → Value → Prop) (hok : slotsOk ops a0.tmps.size = true)
    (mono : ∀ d w w' v, S d w v → Below w.heap.size w w' → S d w' v) (step : StepsOk P ops Q a0 w0 S ops.toList)
    (hend : ∀ (T : Array Value) (w : World), T.size = a0.tmps.size → Below w0.heap.size w0 w → (∀ t, (dstsOf ops).contains t = false → T[t]?.getD undef = a0.tmps[t]?.getD undef) →
      (∀ d, (dstsOf ops).contains d = true → S d w (T[d]?.getD undef)) → Q .normal ⟨T, a0.defers⟩ w) : (Code.region id ops true).wp P Q a0 w0 :=
  wp_region_slots hm S hok mono (fun i o d ho hd => steps_at step (by rw [Array.getElem?_toList]; exact ho) hd) hend
/-- a frame's slots, one by one -/
theorem tmps_lit (T : Array Value) (n : Nat) (h : T.size = n) : T = ((List.range n).map (fun t => T[t]?.getD undef)).toArray := by
  subst h
  apply Array.ext
  · simp
  · intro i h1 h2
    simp [h1]
end
end Go.Proofs.YtnffecoohkanhaaDoor.Py
namespace Go.Proofs.YtnffecoohkanhaaDoor.Py
open Px
open Go.RowKit

theorem _root_.Go.Proofs.YtnffecoohkanhaaDoor.Px.Kp.atM {L : List (Nat × Obj)} {R : List Rw} {w X : World} (h : Kp L R w X) {b : Nat} {o : Obj} (hm : (b, o) ∈ L) : X.heap[b]? = some o := by
  obtain ⟨k, hk, e⟩ := List.getElem_of_mem hm
  exact h.at k (by rw [List.getElem?_eq_getElem hk, e])
/-- some of the blocks that are known -/
theorem _root_.Go.Proofs.YtnffecoohkanhaaDoor.Px.Kp.sub {L M : List (Nat × Obj)} {R R' : List Rw} {W X Y : World} (h : Kp M R W X) (k : Kp L R' W Y) (hs : ∀ p ∈ L, p ∈ M) : Kp L R W X :=
  ⟨⟨h.below, fun _ b o hk => h.atM (hs (b, o) (List.mem_of_getElem? hk)), fun p hp => h.known.own p (hs p hp), k.known.desc⟩, h.own, fun r hr g hg p hp => h.offL r hr g hg p (hs p hp), h.offR⟩
/-- an append of a region: its operation, its slot, the slice that it appends to, and what comes of it -/
structure Job where
  i : Nat
  d : Nat
  r : Rw
  n : Nat
  xs : List Value
/-- the slice behind the append, whose value stands in a slot -/
def Job.row (T : Array Value) (j : Job) : Rw := ⟨T[j.d]?.getD undef, j.r.e, j.r.sz, j.n, j.xs⟩
def Job.now (listed : Array Bool) (T : Array Value) (j : Job) : Rw := if listed.getD j.i false = true then j.row T else j.r
section
variable {P : Program} {ops : Array Oper} {Q : Exit → Act → World → Prop}
structure RK (W : World) (L : List (Nat × Obj)) (R0 : List Rw) (J : List Job) (a0 : Act) (ops : Array Oper) (S : Nat → List (Nat × Obj) → Value → Option Value → Prop) (src : Nat → Option Nat) (Lc : List (Nat × Obj)) (listed : Array Bool) (a : Act) (w : World) : Prop where
  sub : ∀ p ∈ L, p ∈ Lc
  kp : Kp Lc (J.map (·.now listed a.tmps) ++ R0) W w
  defers : a.defers = a0.defers
  size : a.tmps.size = a0.tmps.size
  old : ∀ t, (dstsOf ops).contains t = false → a.tmps[t]?.getD undef = a0.tmps[t]?.getD undef
  un : ∀ (i : Nat) (o : Oper) (d : Nat), ops[i]? = some o → o.dst = some d → listed.getD i false = false → a.tmps[d]?.getD undef = a0.tmps[d]?.getD undef
  closed : ∀ (i : Nat) (o : Oper), ops[i]? = some o → listed.getD i false = true → ∀ e ∈ o.after, Region.binds .any e = true → listed.getD e.on false = true
  got : ∀ (i : Nat) (o : Oper) (d : Nat), ops[i]? = some o → o.dst = some d → listed.getD i false = true → (∀ j ∈ J, j.i ≠ i) → S d Lc (a.tmps[d]?.getD undef) ((src d).map fun t => a.tmps[t]?.getD undef)
/-- what is asked of the appends and of the slots that look at another one -/
structure JobsOk (ops : Array Oper) (J : List Job) (src : Nat → Option Nat) : Prop where
  at' : ∀ j ∈ J, ∃ o, ops[j.i]? = some o ∧ o.dst = some j.d
  nodup : (J.map (·.i)).Nodup
  src : ∀ (i : Nat) (o : Oper) (d t : Nat), ops[i]? = some o → o.dst = some d → src d = some t → ∃ e ∈ o.after, Region.binds .any e = true ∧ ∃ o', ops[e.on]? = some o' ∧ o'.dst = some t
theorem set_put {T : Array Value} {d t : Nat} (v : Value) (h : d ≠ t) : (T.setIfInBounds d v)[t]?.getD undef = T[t]?.getD undef := by rw [Array.getElem?_setIfInBounds_ne h]
theorem set_self {T : Array Value} {d : Nat} (v : Value) (h : d < T.size) : (T.setIfInBounds d v)[d]?.getD undef = v := by rw [Array.getElem?_setIfInBounds_self_of_lt h]; rfl
theorem listed_self {listed : Array Bool} {i : Nat} (h : i < listed.size) : (listed.setIfInBounds i true).getD i false = true := by simp [h]
/-- one more operation is listed -/
theorem RK.put {W : World} {L : List (Nat × Obj)} {R0 : List Rw} {J : List Job} {a0 : Act} {S : Nat → List (Nat × Obj) → Value → Option Value → Prop} {src : Nat → Option Nat} {Lc Lc' : List (Nat × Obj)} {listed : Array Bool} {a : Act} {w w' : World}
    (h : RK W L R0 J a0 ops S src Lc listed a w) (hok : slotsOk ops a0.tmps.size = true) (hJ : JobsOk ops J src) (hs : listed.size = ops.size) (mono : ∀ d l l' v u, S d l v u → (∀ p ∈ l, p ∈ l') → S d l' v u)
    {i : Nat} {o : Oper} {d : Nat} (ho : ops[i]? = some o) (hd : o.dst = some d) (hu : listed.getD i false = false) (hr : ∀ e ∈ o.after, Region.binds .any e = true → listed.getD e.on false = true) {v : Value}
    (hsub : ∀ p ∈ Lc, p ∈ Lc') (hk : Kp Lc' (J.map (·.now (listed.setIfInBounds i true) (a.tmps.setIfInBounds d v)) ++ R0) W w')
    (hv : (∀ j ∈ J, j.i ≠ i) → S d Lc' v ((src d).map fun t => a.tmps[t]?.getD undef)) : RK W L R0 J a0 ops S src Lc' (listed.setIfInBounds i true) (a.put (some d) v) w' := by
  have hi : i < listed.size := by rw [hs]; exact (Array.getElem?_eq_some_iff.1 ho).1
  have hdn : d < a.tmps.size := by
    obtain ⟨⟨d', e, hlt⟩, _⟩ := slots_op hok ho
    rw [hd] at e
    cases e
    rw [h.size]
    exact hlt
  have hne : ∀ {k : Nat} {o' : Oper} {d' : Nat}, ops[k]? = some o' → o'.dst = some d' → i ≠ k → d ≠ d' := fun ho' hd' hik e => hik (slots_ne hok ho ho' hd (by rw [e]; exact hd'))
  have hsrc : ∀ {k : Nat} {o' : Oper} {d' t : Nat}, ops[k]? = some o' → o'.dst = some d' → src d' = some t → (∀ e ∈ o'.after, Region.binds .any e = true → listed.getD e.on false = true) → d ≠ t := by
    intro k o' d' t ho' hd' ht hl
    obtain ⟨e, he, hb, o2, ho2, hd2⟩ := hJ.src k o' d' t ho' hd' ht
    have := hl e he hb
    exact hne ho2 hd2 (fun q => by rw [← q, hu] at this; cases this)
  refine ⟨fun p hp => hsub p (h.sub p hp), hk, h.defers, by simp [Act.put, h.size], fun t ht => ?_, fun k o' d' ho' hd' hl => ?_, fun k o' ho' hl e he hb => ?_, fun k o' d' ho' hd' hl hjk => ?_⟩
  · have : d ≠ t := fun e => by rw [← e, dst_mem ho hd] at ht; cases ht
    exact (set_put v this).trans (h.old t ht)
  · have hik : i ≠ k := fun e => by
      subst e
      rw [listed_self hi] at hl
      cases hl
    rw [getD_set_ne false hik] at hl
    exact (set_put v (hne ho' hd' hik)).trans (h.un k o' d' ho' hd' hl)
  · by_cases hik : i = k
    · subst hik
      rw [ho] at ho'
      cases ho'
      exact getD_set_true (hr e he hb)
    · rw [getD_set_ne false hik] at hl
      exact getD_set_true (h.closed k o' ho' hl e he hb)
  · show S d' Lc' ((a.tmps.setIfInBounds d v)[d']?.getD undef) ((src d').map fun t => (a.tmps.setIfInBounds d v)[t]?.getD undef)
    have hmap : ∀ (hl' : ∀ e ∈ o'.after, Region.binds .any e = true → listed.getD e.on false = true), ((src d').map fun t => (a.tmps.setIfInBounds d v)[t]?.getD undef) = (src d').map fun t => a.tmps[t]?.getD undef := by
      intro hl'
      cases ht : src d' with
      | none => rfl
      | some t =>
        rw [Option.map_some, Option.map_some]
        congr 1
        exact set_put v (hsrc ho' hd' ht hl')
    by_cases hik : i = k
    · subst hik
      rw [ho] at ho'
      cases ho'
      rw [hd] at hd'
      cases hd'
      rw [set_self v hdn, hmap hr]
      exact hv hjk
    · rw [getD_set_ne false hik] at hl
      rw [set_put v (hne ho' hd' hik), hmap (h.closed k o' ho' hl)]
      exact mono _ _ _ _ _ (h.got k o' d' ho' hd' hl hjk) hsub
/-- the facts that an operation finds -/
structure Finds (L : List (Nat × Obj)) (J : List Job) (a0 : Act) (ops : Array Oper) (S : Nat → List (Nat × Obj) → Value → Option Value → Prop) (src : Nat → Option Nat) (i : Nat) (o : Oper) (T : Array Value) (Lc : List (Nat × Obj)) : Prop where
  sub : ∀ p ∈ L, p ∈ Lc
  old : ∀ t, (dstsOf ops).contains t = false → T[t]?.getD undef = a0.tmps[t]?.getD undef
  later : ∀ (k : Nat) (o' : Oper) (d' : Nat), ops[k]? = some o' → o'.dst = some d' → o'.after.any (fun e => e.on == i && Region.binds .any e) = true → T[d']?.getD undef = a0.tmps[d']?.getD undef
  dep : ∀ e ∈ o.after, Region.binds .any e = true → (∀ j ∈ J, j.i ≠ e.on) → ∀ (o' : Oper) (d' : Nat), ops[e.on]? = some o' → o'.dst = some d' → S d' Lc (T[d']?.getD undef) ((src d').map fun t => T[t]?.getD undef)
theorem Finds.on {L : List (Nat × Obj)} {J : List Job} {a0 : Act} {S : Nat → List (Nat × Obj) → Value → Option Value → Prop} {src : Nat → Option Nat} {i : Nat} {o : Oper} {T : Array Value} {Lc : List (Nat × Obj)} (h : Finds L J a0 ops S src i o T Lc) (k : Nat)
    (hk : o.after.any (fun e => e.on == k && Region.binds .any e) = true) (hj : (J.map (·.i)).contains k = false) {o' : Oper} {d' : Nat} (ho : ops[k]? = some o') (hd : o'.dst = some d') : S d' Lc (T[d']?.getD undef) ((src d').map fun t => T[t]?.getD undef) := by
  obtain ⟨e, he, hb⟩ := Array.any_eq_true'.1 hk
  simp only [Bool.and_eq_true, beq_iff_eq] at hb
  refine h.dep e he hb.2 (fun j hjm q => ?_) o' d' (by rw [hb.1]; exact ho) hd
  rw [List.contains_eq_mem, decide_eq_false_iff_not] at hj
  exact hj (by rw [← hb.1, ← q]; exact List.mem_map.2 ⟨j, hjm, rfl⟩)
/-- an operation that is no append -/
def StepN (P : Program) (Q : Exit → Act → World → Prop) (W : World) (L : List (Nat × Obj)) (R0 : List Rw) (J : List Job) (a0 : Act) (ops : Array Oper) (S : Nat → List (Nat × Obj) → Value → Option Value → Prop) (src : Nat → Option Nat) (i : Nat) (o : Oper) (d : Nat) : Prop :=
  ∀ (T : Array Value) (D : List Deferred) (w : World) (Lc : List (Nat × Obj)) (R : List Rw), Kp Lc (R ++ R0) W w → Finds L J a0 ops S src i o T Lc →
    ∀ K : Act → World → Prop, (∀ v w' Lc', Kp Lc' (R ++ R0) W w' → (∀ p ∈ Lc, p ∈ Lc') → S d Lc' v ((src d).map fun t => T[t]?.getD undef) → K (Act.put ⟨T, D⟩ (some d) v) w') → o.wp P ⟨T, D⟩ w K Q
/-- an append -/
def StepJ (P : Program) (Q : Exit → Act → World → Prop) (W : World) (L : List (Nat × Obj)) (J : List Job) (a0 : Act) (ops : Array Oper) (S : Nat → List (Nat × Obj) → Value → Option Value → Prop) (src : Nat → Option Nat) (j : Job) (o : Oper) : Prop :=
  ∀ (T : Array Value) (D : List Deferred) (w : World) (Lc : List (Nat × Obj)) (R : List Rw), Kp Lc (j.r :: R) W w → Finds L J a0 ops S src j.i o T Lc →
    ∀ K : Act → World → Prop, (∀ v w', Kp Lc (⟨v, j.r.e, j.r.sz, j.n, j.xs⟩ :: R) W w' → K (Act.put ⟨T, D⟩ (some j.d) v) w') → o.wp P ⟨T, D⟩ w K Q
theorem split_job {J : List Job} (hn : (J.map (·.i)).Nodup) {j : Job} (hj : j ∈ J) : ∃ A B, J = A ++ j :: B ∧ ∀ k ∈ A ++ B, k.i ≠ j.i := by
  obtain ⟨A, B, e⟩ := List.append_of_mem hj
  refine ⟨A, B, e, fun k hk hki => ?_⟩
  rw [e, List.map_append, List.map_cons] at hn
  have h2 := (List.nodup_append.1 hn)
  rcases List.mem_append.1 hk with hk | hk
  · exact h2.2.2 k.i (List.mem_map.2 ⟨k, hk, rfl⟩) j.i (List.mem_cons_self ..) hki
  · exact (List.nodup_cons.1 h2.2.1).1 (List.mem_map.2 ⟨k, hk, hki⟩)
/-- the law -/
theorem wp_region_kp {id : Nat} {a0 : Act} {w0 : World} (W : World) (L : List (Nat × Obj)) (R0 : List Rw) (J : List Job) (src : Nat → Option Nat) (hm : P.follows .mixedOrders = true) (S : Nat → List (Nat × Obj) → Value → Option Value → Prop)
    (hok : slotsOk ops a0.tmps.size = true) (hJ : JobsOk ops J src) (mono : ∀ d l l' v u, S d l v u → (∀ p ∈ l, p ∈ l') → S d l' v u) (h0 : Kp L (J.map (·.r) ++ R0) W w0)
    (stepN : ∀ (i : Nat) (o : Oper) (d : Nat), ops[i]? = some o → o.dst = some d → (∀ j ∈ J, j.i ≠ i) → StepN P Q W L R0 J a0 ops S src i o d)
    (stepJ : ∀ j ∈ J, ∀ o, ops[j.i]? = some o → StepJ P Q W L J a0 ops S src j o)
    (hend : ∀ (T : Array Value) (w : World) (Lc : List (Nat × Obj)), T.size = a0.tmps.size → Kp Lc (J.map (·.row T) ++ R0) W w → (∀ p ∈ L, p ∈ Lc) → (∀ t, (dstsOf ops).contains t = false → T[t]?.getD undef = a0.tmps[t]?.getD undef) →
      (∀ (i : Nat) (o : Oper) (d : Nat), ops[i]? = some o → o.dst = some d → (J.map (·.i)).contains i = false → S d Lc (T[d]?.getD undef) ((src d).map fun t => T[t]?.getD undef)) → Q .normal ⟨T, a0.defers⟩ w) : (Code.region id ops true).wp P Q a0 w0 := by
  refine wp_region_inv hm (fun listed a w => ∃ Lc, RK W L R0 J a0 ops S src Lc listed a w) ?_ ?_ ?_
  · refine ⟨L, fun p hp => hp, ?_, rfl, rfl, fun _ _ => rfl, fun _ _ _ _ _ _ => rfl, fun i o ho hl => ?_, fun i o d ho hd hl => ?_⟩
    · have e : J.map (·.now (Array.replicate ops.size false) a0.tmps) = J.map (·.r) := by
        apply List.map_congr_left
        intro j _
        unfold Job.now
        rw [if_neg]
        simp [Array.getElem?_replicate]
        split <;> simp
      rw [e]
      exact h0.drew
    · have hlt : i < ops.size := (Array.getElem?_eq_some_iff.1 ho).1
      simp [hlt] at hl
    · have hlt : i < ops.size := (Array.getElem?_eq_some_iff.1 ho).1
      simp [hlt] at hl
  · rintro listed a w i hs ⟨Lc, hI⟩ hi
    obtain ⟨h1, h2, h3⟩ := ready_mem hi
    have ho : ops[i]? = some ops[i] := Array.getElem?_eq_getElem h1
    obtain ⟨⟨d, hd, _⟩, hg, _⟩ := slots_op hok ho
    have hu : listed.getD i false = false := by
      have hlt : i < listed.size := by omega
      simp only [Array.getD_eq_getD_getElem?, Array.getElem?_eq_getElem hlt, Option.getD_some] at h2 ⊢
      exact h2
    have hr := h3 _ ho
    have hf : Finds L J a0 ops S src i ops[i] a.tmps Lc := by
      refine ⟨hI.sub, hI.old, fun k o' d' ho' hd' hk => hI.un k o' d' ho' hd' ?_, fun e he hb hj o' d' ho' hd' => hI.got e.on o' d' ho' hd' (hr e he hb) hj⟩
      cases hl : listed.getD k false with
      | false => rfl
      | true =>
        obtain ⟨e, he, hb⟩ := Array.any_eq_true'.1 hk
        simp only [Bool.and_eq_true, beq_iff_eq] at hb
        have := hI.closed k o' ho' hl e he hb.2
        rw [hb.1, hu] at this
        cases this
    refine wpOp_step ho fun K hK => ?_
    rw [if_pos (by unfold Region.wanted; rw [hg])]
    by_cases hj : ∃ j ∈ J, j.i = i
    · obtain ⟨j, hjm, rfl⟩ := hj
      obtain ⟨o', ho', hd'⟩ := hJ.at' j hjm
      have hdj : j.d = d := by
        rw [ho] at ho'
        cases ho'
        rw [hd] at hd'
        cases hd'
        rfl
      subst hdj
      obtain ⟨A, B, eJ, hAB⟩ := split_job hJ.nodup hjm
      have hnow : j.now listed a.tmps = j.r := by unfold Job.now; rw [if_neg (by rw [hu]; decide)]
      have hp0 : (j.r :: (A.map (·.now listed a.tmps) ++ (B.map (·.now listed a.tmps) ++ R0))).Perm (J.map (·.now listed a.tmps) ++ R0) := by
        rw [eJ, List.map_append, List.map_cons, hnow, List.append_assoc, List.cons_append]
        exact (List.perm_middle (a := j.r)).symm
      refine stepJ j hjm _ ho a.tmps a.defers w Lc _ (hI.kp.perm hp0) hf K fun v w' hk => hK _ _ ⟨Lc, hI.put hok hJ hs mono ho hd hu hr (fun p hp => hp) ?_ (fun hno => absurd rfl (hno j hjm))⟩
      have hdn : j.d < a.tmps.size := by
        obtain ⟨⟨d', e, hlt⟩, _⟩ := slots_op hok ho
        rw [hd] at e
        cases e
        rw [hI.size]
        exact hlt
      have hnow' : j.now (listed.setIfInBounds j.i true) (a.tmps.setIfInBounds j.d v) = ⟨v, j.r.e, j.r.sz, j.n, j.xs⟩ := by
        unfold Job.now Job.row
        rw [if_pos (listed_self (by omega)), set_self v hdn]
      have hoth : ∀ k ∈ A ++ B, k.now (listed.setIfInBounds j.i true) (a.tmps.setIfInBounds j.d v) = k.now listed a.tmps := by
        intro k hk'
        have hki := hAB k hk'
        have hkm : k ∈ J := by
          rw [eJ]
          rcases List.mem_append.1 hk' with q | q
          · exact List.mem_append_left _ q
          · exact List.mem_append_right _ (List.mem_cons_of_mem _ q)
        obtain ⟨o2, ho2, hd2⟩ := hJ.at' k hkm
        have hne : j.d ≠ k.d := fun e => hki (slots_ne hok ho2 ho hd2 (by rw [← e]; exact hd))
        unfold Job.now Job.row
        rw [getD_set_ne false (Ne.symm hki), set_put v hne]
      refine hk.perm ?_
      rw [eJ, List.map_append, List.map_cons, hnow', List.append_assoc, List.cons_append, List.map_congr_left (fun k hk' => hoth k (List.mem_append_left _ hk')), List.map_congr_left (fun k hk' => hoth k (List.mem_append_right _ hk'))]
      exact List.perm_middle
    · have hno : ∀ j ∈ J, j.i ≠ i := fun j hjm e => hj ⟨j, hjm, e⟩
      refine stepN i ops[i] d ho hd hno a.tmps a.defers w Lc _ hI.kp hf K fun v w' Lc' hk hsub hS => hK _ _ ⟨Lc', hI.put hok hJ hs mono ho hd hu hr hsub ?_ (fun _ => hS)⟩
      have hsame : J.map (·.now (listed.setIfInBounds i true) (a.tmps.setIfInBounds d v)) = J.map (·.now listed a.tmps) := by
        apply List.map_congr_left
        intro j hjm
        obtain ⟨o2, ho2, hd2⟩ := hJ.at' j hjm
        have hne : d ≠ j.d := fun e => hno j hjm (slots_ne hok ho2 ho hd2 (by rw [← e]; exact hd))
        unfold Job.now Job.row
        rw [getD_set_ne false (Ne.symm (hno j hjm)), set_put v hne]
      rw [hsame]
      exact hk
  · rintro listed a w hs ⟨Lc, hI⟩ hr
    have hall := all_listed hs (fun i o ho => (slots_op hok ho).2.2) hr
    have hrow : J.map (·.now listed a.tmps) = J.map (·.row a.tmps) := by
      apply List.map_congr_left
      intro j hjm
      obtain ⟨o2, ho2, _⟩ := hJ.at' j hjm
      unfold Job.now
      rw [if_pos (hall j.i (Array.getElem?_eq_some_iff.1 ho2).1)]
    have := hend a.tmps w Lc hI.size (by rw [← hrow]; exact hI.kp) hI.sub hI.old fun i o d ho hd hj => hI.got i o d ho hd (hall i (Array.getElem?_eq_some_iff.1 ho).1) (fun j hjm e => by
      rw [List.contains_eq_mem, decide_eq_false_iff_not] at hj
      exact hj (by rw [← e]; exact List.mem_map.2 ⟨j, hjm, rfl⟩))
    have he := hI.defers
    obtain ⟨T, D⟩ := a
    simp only at he
    subst he
    exact this
/-- the operations one by one -/
def StepsK (P : Program) (Q : Exit → Act → World → Prop) (W : World) (L : List (Nat × Obj)) (R0 : List Rw) (J : List Job) (a0 : Act) (ops : Array Oper) (S : Nat → List (Nat × Obj) → Value → Option Value → Prop) (src : Nat → Option Nat) : Nat → List Oper → Prop
  | _, [] => True
  | i, o :: r => ((∀ d, o.dst = some d → (J.map (·.i)).contains i = false → StepN P Q W L R0 J a0 ops S src i o d) ∧ ∀ j ∈ J, j.i = i → StepJ P Q W L J a0 ops S src j o) ∧ StepsK P Q W L R0 J a0 ops S src (i + 1) r
section
variable {W : World} {L : List (Nat × Obj)} {R0 : List Rw} {J : List Job} {a0 : Act} {S : Nat → List (Nat × Obj) → Value → Option Value → Prop} {src : Nat → Option Nat}
theorem stepsK_nil {i : Nat} : StepsK P Q W L R0 J a0 ops S src i [] := trivial
theorem stepsK_n {i : Nat} {o : Oper} {r : List Oper} (d : Nat) (hd : o.dst = some d) (hj : (J.map (·.i)).contains i = false) (h : StepN P Q W L R0 J a0 ops S src i o d) (hr : StepsK P Q W L R0 J a0 ops S src (i + 1) r) : StepsK P Q W L R0 J a0 ops S src i (o :: r) :=
  ⟨⟨fun d' hd' _ => by rw [hd] at hd'; cases hd'; exact h, fun j hm e => by
    rw [List.contains_eq_mem, decide_eq_false_iff_not] at hj
    exact absurd (List.mem_map.2 ⟨j, hm, e⟩) hj⟩, hr⟩
theorem stepsK_j {i : Nat} {o : Oper} {r : List Oper} (j : Job) (hj : J.filter (·.i == i) = [j]) (h : StepJ P Q W L J a0 ops S src j o) (hr : StepsK P Q W L R0 J a0 ops S src (i + 1) r) : StepsK P Q W L R0 J a0 ops S src i (o :: r) := by
  have hm : ∀ k, (k ∈ J ∧ k.i = i) ↔ k = j := fun k => by
    have : k ∈ J.filter (·.i == i) ↔ k ∈ [j] := by rw [hj]
    rw [List.mem_filter, List.mem_singleton] at this
    simpa using this
  refine ⟨⟨fun d' hd' hc => ?_, fun k hk e => ?_⟩, hr⟩
  · rw [List.contains_eq_mem, decide_eq_false_iff_not] at hc
    exact absurd (List.mem_map.2 ⟨j, ((hm j).2 rfl).1, ((hm j).2 rfl).2⟩) hc
  · rw [(hm k).1 ⟨hk, e⟩]
    exact h
theorem stepsK_at : ∀ {r : List Oper} {k i : Nat} {o : Oper}, StepsK P Q W L R0 J a0 ops S src k r → r[i]? = some o → (∀ d, o.dst = some d → (J.map (·.i)).contains (k + i) = false → StepN P Q W L R0 J a0 ops S src (k + i) o d) ∧ ∀ j ∈ J, j.i = k + i → StepJ P Q W L J a0 ops S src j o
  | [], _, _, _, _, h => by simp at h
  | x :: r, k, 0, o, h, ho => by
    simp only [List.getElem?_cons_zero, Option.some.injEq] at ho
    subst ho
    exact h.1
  | x :: r, k, i + 1, o, h, ho => by
    have := stepsK_at (r := r) (k := k + 1) (i := i) (o := o) h.2 (by simpa using ho)
    rw [show k + 1 + i = k + (i + 1) by omega] at this
    exact this
/-- slots that hold what another slot holds -/
def srcOf (l : List (Nat × Nat)) (d : Nat) : Option Nat := (l.find? (·.1 == d)).map (·.2)
def srcOk (ops : Array Oper) (l : List (Nat × Nat)) : Bool :=
  (List.range ops.size).all (fun i => match ops[i]? with
    | some o => (match o.dst with
      | some d => (match srcOf l d with
        | some t => o.after.any (fun e => Region.binds .any e && (match ops[e.on]? with | some o' => o'.dst == some t | none => false))
        | none => true)
      | none => true)
    | none => true)
theorem srcOk_spec {l : List (Nat × Nat)} (h : srcOk ops l = true) (i : Nat) (o : Oper) (d t : Nat) (ho : ops[i]? = some o) (hd : o.dst = some d) (ht : srcOf l d = some t) : ∃ e ∈ o.after, Region.binds .any e = true ∧ ∃ o', ops[e.on]? = some o' ∧ o'.dst = some t := by
  unfold srcOk at h
  have h1 := List.all_eq_true.1 h i (List.mem_range.2 (Array.getElem?_eq_some_iff.1 ho).1)
  rw [ho] at h1
  simp only [hd, ht] at h1
  obtain ⟨e, he, hb⟩ := Array.any_eq_true'.1 h1
  rw [Bool.and_eq_true] at hb
  refine ⟨e, he, hb.1, ?_⟩
  cases h2 : ops[e.on]? with
  | none => rw [h2] at hb; exact Bool.noConfusion (show false = true from hb.2)
  | some o' => rw [h2] at hb; exact ⟨o', rfl, by simpa using hb.2⟩
/-- the law, the operations one by one -/
theorem wp_region_kps {id : Nat} {w0 : World} (W : World) (L : List (Nat × Obj)) (R0 : List Rw) (J : List Job) (l : List (Nat × Nat)) (hm : P.follows .mixedOrders = true) (S : Nat → List (Nat × Obj) → Value → Option Value → Prop)
    (hok : slotsOk ops a0.tmps.size = true) (hat : ∀ j ∈ J, ∃ o, ops[j.i]? = some o ∧ o.dst = some j.d) (hnd : (J.map (·.i)).Nodup) (hsrc : srcOk ops l = true) (mono : ∀ d l l' v u, S d l v u → (∀ p ∈ l, p ∈ l') → S d l' v u) (h0 : Kp L (J.map (·.r) ++ R0) W w0)
    (steps : StepsK P Q W L R0 J a0 ops S (srcOf l) 0 ops.toList)
    (hend : ∀ (T : Array Value) (w : World) (Lc : List (Nat × Obj)), T.size = a0.tmps.size → Kp Lc (J.map (·.row T) ++ R0) W w → (∀ p ∈ L, p ∈ Lc) → (∀ t, (dstsOf ops).contains t = false → T[t]?.getD undef = a0.tmps[t]?.getD undef) →
      (∀ (i : Nat) (o : Oper) (d : Nat), ops[i]? = some o → o.dst = some d → (J.map (·.i)).contains i = false → S d Lc (T[d]?.getD undef) ((srcOf l d).map fun t => T[t]?.getD undef)) → Q .normal ⟨T, a0.defers⟩ w) : (Code.region id ops true).wp P Q a0 w0 :=
  wp_region_kp W L R0 J (srcOf l) hm S hok ⟨hat, hnd, fun i o d t => srcOk_spec hsrc i o d t⟩ mono h0
    (fun i o d ho hd hj => by
      have := (stepsK_at steps (i := i) (by rw [Array.getElem?_toList]; exact ho)).1 d hd (by
        rw [List.contains_eq_mem, decide_eq_false_iff_not]
        intro hm
        obtain ⟨j, hjm, e⟩ := List.mem_map.1 hm
        exact hj j hjm (by omega))
      rw [Nat.zero_add] at this
      exact this)
    (fun j hj o ho => (stepsK_at steps (i := j.i) (by rw [Array.getElem?_toList]; exact ho)).2 j hj (by omega)) hend
end
/-- a frame behind a region: the slots of its operations are new -/
theorem tmps_mix {T A : Array Value} {ops : Array Oper} (l : List Nat) (hl : dstsOf ops = l) (hs : T.size = A.size) (hold : ∀ t, (dstsOf ops).contains t = false → T[t]?.getD undef = A[t]?.getD undef) :
    T = l.foldl (fun B d => B.setIfInBounds d (T[d]?.getD undef)) A := by
  subst hl
  have hsz : ∀ (l : List Nat) (B : Array Value), (l.foldl (fun B d => B.setIfInBounds d (T[d]?.getD undef)) B).size = B.size := by
    intro l
    induction l with
    | nil => intro B; rfl
    | cons d r ih => intro B; rw [List.foldl_cons, ih, Array.size_setIfInBounds]
  have hat : ∀ (l : List Nat) (B : Array Value) (t : Nat), B.size = T.size → t < T.size → (l.foldl (fun B d => B.setIfInBounds d (T[d]?.getD undef)) B)[t]?.getD undef = if l.contains t = true then T[t]?.getD undef else B[t]?.getD undef := by
    intro l
    induction l with
    | nil => intro B t _ _; rfl
    | cons d r ih =>
      intro B t hB ht
      rw [List.foldl_cons, ih _ t (by rw [Array.size_setIfInBounds, hB]) ht]
      by_cases hr : r.contains t = true
      · rw [if_pos hr, if_pos (by simp only [List.contains_cons, hr, Bool.or_true])]
      · rw [if_neg hr]
        by_cases hd : t = d
        · subst hd
          rw [if_pos (by simp), Array.getElem?_setIfInBounds_self_of_lt (by omega)]
          rfl
        · rw [if_neg (by simpa [hd] using hr), Array.getElem?_setIfInBounds_ne (Ne.symm hd)]
  apply Array.ext
  · rw [hsz, hs]
  · intro t h1 h2
    have h3 := hat (dstsOf ops) A t hs.symm h1
    have e1 : T[t] = T[t]?.getD undef := by rw [Array.getElem?_eq_getElem h1]; rfl
    have e2 : ∀ (B : Array Value) (h : t < B.size), B[t] = B[t]?.getD undef := fun B h => by rw [Array.getElem?_eq_getElem h]; rfl
    rw [e1, e2 _ h2, h3]
    cases hc : (dstsOf ops).contains t with
    | true => rfl
    | false => rw [if_neg (by decide)]; exact hold t hc
theorem eval_tmp {T : Array Value} {D : List Deferred} {t : Nat} {v : Value} (h : T[t]?.getD undef = v) : (⟨T, D⟩ : Act).eval (.tmp t) = v := by
  show T.getD t undef = v
  rw [Array.getD_eq_getD_getElem?]
  exact h
/-- what a slot holds: a value, a slice over a new block, what another slot holds -/
inductive KK where
  | eq (v : Value)
  | blk (n : Nat) (cs : Array Value) (t : TypeId)
  | cp
  | any
def KK.S : KK → List (Nat × Obj) → Value → Option Value → Prop
  | .eq u, _, v, _ => v = u
  | .blk n cs t, l, v, _ => ∃ b, v = .slice (some ⟨b, 0, none⟩) n n ∧ (b, Obj.cells cs t (0, 0)) ∈ l
  | .cp, _, v, u => u = some v
  | .any, _, _, _ => True
theorem KK.mono : ∀ (k : KK) (l l' : List (Nat × Obj)) (v : Value) (u : Option Value), k.S l v u → (∀ p ∈ l, p ∈ l') → k.S l' v u
  | .eq _, _, _, _, _, h, _ => h
  | .blk _ _ _, _, _, _, _, ⟨b, h1, h2⟩, hs => ⟨b, h1, hs _ h2⟩
  | .cp, _, _, _, _, h, _ => h
  | .any, _, _, _, _, _, _ => trivial
/-- what the slots hold, by a list of slots -/
def kkOf (l : List (Nat × KK)) (d : Nat) : KK := match l.find? (fun p => p.1 == d) with | some p => p.2 | none => KK.any
def kkS (l : List (Nat × KK)) (d : Nat) (lc : List (Nat × Obj)) (v : Value) (u : Option Value) : Prop := (kkOf l d).S lc v u
theorem kkS_mono (l : List (Nat × KK)) (d : Nat) (lc lc' : List (Nat × Obj)) (v : Value) (u : Option Value) (h : kkS l d lc v u) (hs : ∀ p ∈ lc, p ∈ lc') : kkS l d lc' v u := KK.mono _ _ _ _ _ h hs
end
end Go.Proofs.YtnffecoohkanhaaDoor.Py
namespace Go.Proofs.YtnffecoohkanhaaDoor.Py
open Px
open Go.RowKit

section
variable {P : Program} {ops : Array Oper} {Q : Exit → Act → World → Prop}
/-- the last operations, one behind the other -/
def TailWp (P : Program) (Q : Exit → Act → World → Prop) : List Oper → Act → World → Prop
  | [], a, w => Q .normal a w
  | o :: r, a, w => o.wp P a w (fun a' w' => TailWp P Q r a' w') Q
/-- an operation waits for another one, itself or by those that it waits for -/
def waits (full : Array Oper) : Nat → Nat → Nat → Bool
  | 0, _, _ => false
  | f + 1, i, j => match full[i]? with
    | some o => o.after.any (fun e => e.on == j && Region.binds .any e) || o.after.any (fun e => Region.binds .any e && waits full f e.on j)
    | none => false
theorem waits_listed {full : Array Oper} {listed : Array Bool} (hc : ∀ (k : Nat) (o : Oper), full[k]? = some o → listed.getD k false = true → ∀ e ∈ o.after, Region.binds .any e = true → listed.getD e.on false = true) : ∀ (f i j : Nat), waits full f i j = true → (∀ o, full[i]? = some o → ∀ e ∈ o.after, Region.binds .any e = true → listed.getD e.on false = true) → listed.getD j false = true
  | 0, _, _, h, _ => by cases h
  | f + 1, i, j, h, hi => by
    unfold waits at h
    cases ho : full[i]? with
    | none => rw [ho] at h; cases h
    | some o =>
      rw [ho] at h
      rcases (Bool.or_eq_true _ _).mp h with h | h
      · obtain ⟨e, he, hb⟩ := Array.any_eq_true'.1 h
        simp only [Bool.and_eq_true, beq_iff_eq] at hb
        rw [← hb.1]
        exact hi o ho e he hb.2
      · obtain ⟨e, he, hb⟩ := Array.any_eq_true'.1 h
        simp only [Bool.and_eq_true] at hb
        exact waits_listed hc f e.on j hb.2 (fun o' ho' e' he' hb' => hc e.on o' ho' (hi o ho e he hb.1) e' he' hb')
/-- the operations from number n on wait for all before them; the others look at each other alone -/
def tailOk (full : Array Oper) (n : Nat) : Bool :=
  decide (n ≤ full.size) && (List.range full.size).all fun i => match full[i]? with
    | some o => o.guard.isNone && o.after.all (fun e => decide (e.on < i)) && (decide (i < n) || (List.range i).all (fun j => waits full 3 i j))
    | none => true
theorem tail_spec {full : Array Oper} {n : Nat} (h : tailOk full n = true) : n ≤ full.size ∧ ∀ (i : Nat) (o : Oper), full[i]? = some o → o.guard = none ∧ (∀ e ∈ o.after, e.on < i) ∧ (n ≤ i → ∀ j, j < i → waits full 3 i j = true) := by
  unfold tailOk at h
  rw [Bool.and_eq_true, decide_eq_true_eq] at h
  refine ⟨h.1, fun i o ho => ?_⟩
  have h1 := List.all_eq_true.1 h.2 i (List.mem_range.2 (Array.getElem?_eq_some_iff.1 ho).1)
  rw [ho] at h1
  simp only [Bool.and_eq_true, Option.isNone_iff_eq_none, Array.all_eq_true_iff_forall_mem, decide_eq_true_eq, Bool.or_eq_true] at h1
  refine ⟨h1.1.1, h1.1.2, fun hi j hj => ?_⟩
  rcases h1.2 with h2 | h2
  · omega
  · have h3 := List.all_eq_true.1 h2 j (List.mem_range.2 hj)
    exact h3
theorem wpOp_same {full : Array Oper} {i : Nat} {o : Oper} {K : Act → World → Prop} {a : Act} {w : World} (h1 : ops[i]? = some o) (h2 : full[i]? = some o) (hg : o.guard = none) (h : wpOp P ops Q i K a w) : wpOp P full Q i K a w := by
  have hw : ∀ y, Region.wanted o y = true := fun y => by unfold Region.wanted; rw [hg]
  unfold wpOp at h ⊢
  rw [h1] at h
  rw [h2]
  simp only [hw, if_true] at h ⊢
  exact h
theorem wpOp_of {full : Array Oper} {i : Nat} {o : Oper} {K : Act → World → Prop} {a : Act} {w : World} (h2 : full[i]? = some o) (hg : o.guard = none) (h : o.wp P a w K Q) : wpOp P full Q i K a w := by
  have hw : ∀ y, Region.wanted o y = true := fun y => by unfold Region.wanted; rw [hg]
  unfold wpOp
  rw [h2]
  simp only [hw, if_true]
  exact Or.inl h
theorem ready_of {listed : Array Bool} {i : Nat} (hi : i < ops.size) (hl : listed.getD i true = false) (hd : ∀ o, ops[i]? = some o → ∀ e ∈ o.after, Region.binds .any e = true → listed.getD e.on false = true) : i ∈ Region.ready .any ops listed := by
  unfold Region.ready
  refine List.mem_filter.2 ⟨List.mem_range.2 hi, ?_⟩
  simp only [Bool.and_eq_true, Bool.not_eq_true']
  refine ⟨hl, ?_⟩
  rw [Array.getElem?_eq_getElem hi]
  simp only [Option.map_some, Option.getD_some]
  refine Array.all_eq_true'.2 fun e he => ?_
  by_cases hb : Region.binds .any e = true
  · rw [hd _ (Array.getElem?_eq_getElem hi) e he hb]
    simp
  · simp at hb
    simp [hb]
theorem getD_both {listed : Array Bool} {i : Nat} (h : i < listed.size) (b c : Bool) : listed.getD i b = listed.getD i c := by
  simp [Array.getD_eq_getD_getElem?, h]
/-- the law for an invariant of the operations ahead of the last ones -/
theorem wp_region_inv_tail {id : Nat} {a : Act} {w : World} (full : Array Oper) (n : Nat) (hops : ops = (full.toList.take n).toArray) (hn : ops.size = n) (htail : tailOk full n = true) (hm : P.follows .mixedOrders = true) (I : Array Bool → Act → World → Prop) (h0 : I (Array.replicate ops.size false) a w.drew)
    (hstep : ∀ listed a w i, listed.size = ops.size → I listed a w → i ∈ Region.ready .any ops listed → wpOp P ops Q i (fun a' w' => I (listed.setIfInBounds i true) a' w') a w)
    (hend : ∀ listed a w, listed.size = ops.size → I listed a w → Region.ready .any ops listed = [] → TailWp P Q (full.toList.drop n) a w) : (Code.region id full true).wp P Q a w := by
  obtain ⟨hnf, hsp⟩ := tail_spec htail
  have hat : ∀ i, i < n → ops[i]? = full[i]? := fun i hi => by
    rw [hops, List.getElem?_toArray, List.getElem?_take, if_pos hi, Array.getElem?_toList]
  have htl : (full.toList.drop n).length = full.size - n := by rw [List.length_drop, Array.length_toList]
  have hta : ∀ s, (full.toList.drop n)[s]? = full[n + s]? := fun s => by rw [List.getElem?_drop, Array.getElem?_toList]
  have hcut : ∀ (listed : Array Bool) (i : Nat), i < n → listed.size = full.size → (listed.extract 0 n).getD i false = listed.getD i false := fun listed i hi hs => by
    rw [Array.getD_eq_getD_getElem?, Array.getD_eq_getD_getElem?, Array.getElem?_extract, if_pos (by omega), Nat.zero_add]
  refine wp_region_inv hm (fun listed a w => ∃ s, s ≤ full.size - n ∧ (∀ j, j < full.size - n → listed.getD (n + j) false = decide (j < s)) ∧
    (s = 0 → I (listed.extract 0 n) a w) ∧ (0 < s → (∀ j, j < n → listed.getD j false = true) ∧ TailWp P Q ((full.toList.drop n).drop s) a w) ∧
    (∀ (k : Nat) (o : Oper), full[k]? = some o → listed.getD k false = true → ∀ e ∈ o.after, Region.binds .any e = true → listed.getD e.on false = true)) ?_ ?_ ?_
  · refine ⟨0, by omega, fun j hj => ?_, fun _ => ?_, (fun h => by omega), fun k o ho hl => ?_⟩
    · simp [Array.getElem?_replicate]
      split <;> rfl
    · have e : (Array.replicate full.size false).extract 0 n = Array.replicate ops.size false := by
        rw [Array.extract_replicate, hn]
        congr 1
        omega
      rw [e]
      exact h0
    · have hlt : k < full.size := (Array.getElem?_eq_some_iff.1 ho).1
      simp [hlt] at hl
  · rintro listed a w i hs ⟨s, hs1, hs2, hs3, hs4, hcl⟩ hi
    obtain ⟨h1, h2, h3⟩ := ready_mem hi
    obtain ⟨o, ho⟩ : ∃ o, full[i]? = some o := ⟨_, Array.getElem?_eq_getElem h1⟩
    obtain ⟨hg, hlow, hall⟩ := hsp i o ho
    have hcl2 : ∀ (k : Nat) (o : Oper), full[k]? = some o → (listed.setIfInBounds i true).getD k false = true → ∀ e ∈ o.after, Region.binds .any e = true → (listed.setIfInBounds i true).getD e.on false = true := by
      intro k o' ho' hl e he hb
      by_cases hik : i = k
      · subst hik
        exact getD_set_true (h3 o' ho' e he hb)
      · rw [getD_set_ne false hik] at hl
        exact getD_set_true (hcl k o' ho' hl e he hb)
    by_cases hin : i < n
    · -- one of the operations ahead
      have hs0 : s = 0 := by
        apply Classical.byContradiction
        intro q
        have := (hs4 (by omega)).1 i hin
        rw [getD_both (by omega) true false, this] at h2
        cases h2
      subst hs0
      have hI := hs3 rfl
      have hr : i ∈ Region.ready .any ops (listed.extract 0 n) := by
        refine ready_of (by omega) ?_ fun o' ho' e he hb => ?_
        · rw [getD_both (by rw [Array.size_extract]; omega) true false, hcut listed i hin hs, getD_both (by omega) false true]
          exact h2
        · rw [hat i hin, ho] at ho'
          cases ho'
          have := hlow e he
          rw [hcut listed e.on (by omega) hs]
          exact h3 o ho e he hb
      refine wpOp_mono (fun a' w' h => ?_) (wpOp_same (by rw [hat i hin]; exact ho) ho hg (hstep (listed.extract 0 n) a w i (by rw [Array.size_extract]; omega) hI hr))
      refine ⟨0, by omega, fun j hj => ?_, fun _ => ?_, (fun h => by omega), hcl2⟩
      · rw [getD_set_ne false (by omega)]
        exact hs2 j hj
      · have e : (listed.setIfInBounds i true).extract 0 n = (listed.extract 0 n).setIfInBounds i true := by
          apply Array.ext
          · simp
          · intro k hk1 hk2
            have hb : k < (listed.extract 0 n).size := by simpa using hk2
            have hb2 : k < listed.size := by rw [Array.size_extract] at hb; omega
            rw [Array.getElem_extract, Array.getElem_setIfInBounds (by omega), Array.getElem_setIfInBounds hb, Array.getElem_extract]
            simp
        rw [e]
        exact h
    · -- one of the last ones
      have hmain : ∀ j, j < i → listed.getD j false = true := fun j hj => by
        exact waits_listed hcl 3 i j (hall (by omega) j hj) h3
      have hij : i = n + s := by
        have hi1 : ¬ i - n < s := fun q => by
          have := hs2 (i - n) (by omega)
          rw [show n + (i - n) = i by omega, decide_eq_true q, getD_both (by omega) false true, h2] at this
          cases this
        apply Classical.byContradiction
        intro q
        have := hs2 s (by omega)
        rw [hmain (n + s) (by omega)] at this
        simp at this
      have htw : TailWp P Q ((full.toList.drop n).drop s) a w := by
        by_cases hs0 : s = 0
        · subst hs0
          rw [List.drop_zero]
          refine hend (listed.extract 0 n) a w (by rw [Array.size_extract]; omega) (hs3 rfl) ?_
          rw [List.eq_nil_iff_forall_not_mem]
          intro k hk
          obtain ⟨k1, k2, _⟩ := ready_mem hk
          rw [getD_both (by rw [Array.size_extract]; omega) true false, hcut listed k (by omega) hs, hmain k (by omega)] at k2
          cases k2
        · exact (hs4 (by omega)).2
      have hd : (full.toList.drop n).drop s = o :: (full.toList.drop n).drop (s + 1) := by
        have hlt : s < (full.toList.drop n).length := by omega
        rw [List.drop_eq_getElem_cons hlt]
        congr 1
        have e1 := hta s
        rw [← hij, ho, List.getElem?_eq_getElem hlt] at e1
        exact Option.some.inj e1
      rw [hd] at htw
      refine wpOp_mono (fun a' w' h => ?_) (wpOp_of ho hg htw)
      refine ⟨s + 1, by omega, fun j hj => ?_, (fun h => by omega), (fun _ => ⟨fun j hj => ?_, h⟩), hcl2⟩
      · by_cases hjs : n + j = i
        · rw [hjs, listed_self (by omega)]
          simp
          omega
        · rw [getD_set_ne false (fun q => hjs q.symm), hs2 j hj]
          by_cases q : j < s
          · rw [decide_eq_true q, decide_eq_true (by omega)]
          · rw [decide_eq_false q, decide_eq_false (by omega)]
      · exact getD_set_true (hmain j (by omega))
  · rintro listed a w hs ⟨s, hs1, hs2, hs3, hs4, _⟩ hr
    have hall := all_listed hs (fun i o ho => (hsp i o ho).2.1) hr
    have hs5 : s = full.size - n := by
      apply Classical.byContradiction
      intro q
      have := hs2 s (by omega)
      rw [hall (n + s) (by omega)] at this
      simp at this
    by_cases hs0 : s = 0
    · have h := hend (listed.extract 0 n) a w (by rw [Array.size_extract]; omega) (hs3 hs0) (by
        rw [List.eq_nil_iff_forall_not_mem]
        intro k hk
        obtain ⟨k1, k2, _⟩ := ready_mem hk
        rw [getD_both (by rw [Array.size_extract]; omega) true false, hcut listed k (by omega) hs, hall k (by omega)] at k2
        cases k2)
      rw [List.drop_eq_nil_of_le (by rw [Array.length_toList]; omega)] at h
      exact h
    · have h := (hs4 (by omega)).2
      rw [List.drop_eq_nil_of_le (by rw [htl]; omega)] at h
      exact h
/-- the law -/
theorem wp_region_slots_tail {id : Nat} (full : Array Oper) (n : Nat) (hops : ops = (full.toList.take n).toArray) (hn : ops.size = n) (htail : tailOk full n = true) {a0 : Act} {w0 : World} (hm : P.follows .mixedOrders = true) (S : Nat → World → Value → Prop) (hok : slotsOk ops a0.tmps.size = true)
    (mono : ∀ d w w' v, S d w v → Below w.heap.size w w' → S d w' v)
    (step : ∀ (i : Nat) (o : Oper) (d : Nat), ops[i]? = some o → o.dst = some d → ∀ (T : Array Value) (D : List Deferred) (w : World), Below w0.heap.size w0 w →
      (∀ t, (dstsOf ops).contains t = false → T[t]?.getD undef = a0.tmps[t]?.getD undef) →
      (∀ e ∈ o.after, Region.binds .any e = true → ∀ (o' : Oper) (d' : Nat), ops[e.on]? = some o' → o'.dst = some d' → S d' w (T[d']?.getD undef)) →
      ∀ K : Act → World → Prop, (∀ v w', Below w.heap.size w w' → S d w' v → K (Act.put ⟨T, D⟩ (some d) v) w') → o.wp P ⟨T, D⟩ w K Q)
    (hend : ∀ (T : Array Value) (w : World), T.size = a0.tmps.size → Below w0.heap.size w0 w → (∀ t, (dstsOf ops).contains t = false → T[t]?.getD undef = a0.tmps[t]?.getD undef) →
      (∀ d, (dstsOf ops).contains d = true → S d w (T[d]?.getD undef)) → TailWp P Q (full.toList.drop n) ⟨T, a0.defers⟩ w) : (Code.region id full true).wp P Q a0 w0 := by
  refine wp_region_inv_tail full n hops hn htail hm (RI w0 a0 ops S) ?_ ?_ ?_
  · refine ⟨⟨rfl, rfl, rfl, Nat.le_refl _, fun _ _ => rfl⟩, rfl, rfl, fun _ _ => rfl, fun i o d ho hd hi => ?_⟩
    have hlt : i < ops.size := (Array.getElem?_eq_some_iff.1 ho).1
    simp [hlt] at hi
  · intro listed a w i hs hI hi
    obtain ⟨h1, h2, h3⟩ := ready_mem hi
    have ho : ops[i]? = some ops[i] := Array.getElem?_eq_getElem h1
    obtain ⟨⟨d, hd, _⟩, hg, _⟩ := slots_op hok ho
    refine wpOp_step ho fun K hK => ?_
    rw [if_pos (by unfold Region.wanted; rw [hg])]
    refine step i ops[i] d ho hd a.tmps a.defers w hI.below hI.old (fun e he hb o' d' ho' hd' => hI.got e.on o' d' ho' hd' (h3 _ ho e he hb)) K fun v w' hB hv => ?_
    have hp := hI.put hok mono ho hd hB hv
    exact hK _ _ hp
  · intro listed a w hs hI hr
    have hall := all_listed hs (fun i o ho => (slots_op hok ho).2.2) hr
    have := hend a.tmps w hI.size hI.below hI.old fun d hd => by
      obtain ⟨i, o, ho, hd'⟩ := mem_dst hd
      exact hI.got i o d ho hd' (hall i (Array.getElem?_eq_some_iff.1 ho).1)
    have he := hI.defers
    obtain ⟨T, D⟩ := a
    simp only at he
    subst he
    exact this
/-- the law, the operations one by one -/
theorem wp_region_steps_tail {id : Nat} {full : Array Oper} (n : Nat) (hn : ((full.toList.take n).toArray).size = n) (htail : tailOk full n = true) {a0 : Act} {w0 : World} (hm : P.follows .mixedOrders = true) (S : Nat → World → Value → Prop) (hok : slotsOk ((full.toList.take n).toArray) a0.tmps.size = true)
    (mono : ∀ d w w' v, S d w v → Below w.heap.size w w' → S d w' v) (step : StepsOk P ((full.toList.take n).toArray) Q a0 w0 S (full.toList.take n))
    (hend : ∀ (T : Array Value) (w : World), T.size = a0.tmps.size → Below w0.heap.size w0 w → (∀ t, (dstsOf ((full.toList.take n).toArray)).contains t = false → T[t]?.getD undef = a0.tmps[t]?.getD undef) →
      (∀ d, (dstsOf ((full.toList.take n).toArray)).contains d = true → S d w (T[d]?.getD undef)) → TailWp P Q (full.toList.drop n) ⟨T, a0.defers⟩ w) : (Code.region id full true).wp P Q a0 w0 :=
  wp_region_slots_tail full n rfl hn htail hm S hok mono (fun i o d ho hd => steps_at step (by rw [← Array.getElem?_toList] at ho; exact ho) hd) hend
/-- the law -/
theorem wp_region_kp_tail {id : Nat} (full : Array Oper) (n : Nat) (hops : ops = (full.toList.take n).toArray) (hn : ops.size = n) (htail : tailOk full n = true) {a0 : Act} {w0 : World} (W : World) (L : List (Nat × Obj)) (R0 : List Rw) (J : List Job) (src : Nat → Option Nat) (hm : P.follows .mixedOrders = true) (S : Nat → List (Nat × Obj) → Value → Option Value → Prop)
    (hok : slotsOk ops a0.tmps.size = true) (hJ : JobsOk ops J src) (mono : ∀ d l l' v u, S d l v u → (∀ p ∈ l, p ∈ l') → S d l' v u) (h0 : Kp L (J.map (·.r) ++ R0) W w0)
    (stepN : ∀ (i : Nat) (o : Oper) (d : Nat), ops[i]? = some o → o.dst = some d → (∀ j ∈ J, j.i ≠ i) → StepN P Q W L R0 J a0 ops S src i o d)
    (stepJ : ∀ j ∈ J, ∀ o, ops[j.i]? = some o → StepJ P Q W L J a0 ops S src j o)
    (hend : ∀ (T : Array Value) (w : World) (Lc : List (Nat × Obj)), T.size = a0.tmps.size → Kp Lc (J.map (·.row T) ++ R0) W w → (∀ p ∈ L, p ∈ Lc) → (∀ t, (dstsOf ops).contains t = false → T[t]?.getD undef = a0.tmps[t]?.getD undef) →
      (∀ (i : Nat) (o : Oper) (d : Nat), ops[i]? = some o → o.dst = some d → (J.map (·.i)).contains i = false → S d Lc (T[d]?.getD undef) ((src d).map fun t => T[t]?.getD undef)) → TailWp P Q (full.toList.drop n) ⟨T, a0.defers⟩ w) : (Code.region id full true).wp P Q a0 w0 := by
  refine wp_region_inv_tail full n hops hn htail hm (fun listed a w => ∃ Lc, RK W L R0 J a0 ops S src Lc listed a w) ?_ ?_ ?_
  · refine ⟨L, fun p hp => hp, ?_, rfl, rfl, fun _ _ => rfl, fun _ _ _ _ _ _ => rfl, fun i o ho hl => ?_, fun i o d ho hd hl => ?_⟩
    · have e : J.map (·.now (Array.replicate ops.size false) a0.tmps) = J.map (·.r) := by
        apply List.map_congr_left
        intro j _
        unfold Job.now
        rw [if_neg]
        simp [Array.getElem?_replicate]
        split <;> simp
      rw [e]
      exact h0.drew
    · have hlt : i < ops.size := (Array.getElem?_eq_some_iff.1 ho).1
      simp [hlt] at hl
    · have hlt : i < ops.size := (Array.getElem?_eq_some_iff.1 ho).1
      simp [hlt] at hl
  · rintro listed a w i hs ⟨Lc, hI⟩ hi
    obtain ⟨h1, h2, h3⟩ := ready_mem hi
    have ho : ops[i]? = some ops[i] := Array.getElem?_eq_getElem h1
    obtain ⟨⟨d, hd, _⟩, hg, _⟩ := slots_op hok ho
    have hu : listed.getD i false = false := by
      have hlt : i < listed.size := by omega
      simp only [Array.getD_eq_getD_getElem?, Array.getElem?_eq_getElem hlt, Option.getD_some] at h2 ⊢
      exact h2
    have hr := h3 _ ho
    have hf : Finds L J a0 ops S src i ops[i] a.tmps Lc := by
      refine ⟨hI.sub, hI.old, fun k o' d' ho' hd' hk => hI.un k o' d' ho' hd' ?_, fun e he hb hj o' d' ho' hd' => hI.got e.on o' d' ho' hd' (hr e he hb) hj⟩
      cases hl : listed.getD k false with
      | false => rfl
      | true =>
        obtain ⟨e, he, hb⟩ := Array.any_eq_true'.1 hk
        simp only [Bool.and_eq_true, beq_iff_eq] at hb
        have := hI.closed k o' ho' hl e he hb.2
        rw [hb.1, hu] at this
        cases this
    refine wpOp_step ho fun K hK => ?_
    rw [if_pos (by unfold Region.wanted; rw [hg])]
    by_cases hj : ∃ j ∈ J, j.i = i
    · obtain ⟨j, hjm, rfl⟩ := hj
      obtain ⟨o', ho', hd'⟩ := hJ.at' j hjm
      have hdj : j.d = d := by
        rw [ho] at ho'
        cases ho'
        rw [hd] at hd'
        cases hd'
        rfl
      subst hdj
      obtain ⟨A, B, eJ, hAB⟩ := split_job hJ.nodup hjm
      have hnow : j.now listed a.tmps = j.r := by unfold Job.now; rw [if_neg (by rw [hu]; decide)]
      have hp0 : (j.r :: (A.map (·.now listed a.tmps) ++ (B.map (·.now listed a.tmps) ++ R0))).Perm (J.map (·.now listed a.tmps) ++ R0) := by
        rw [eJ, List.map_append, List.map_cons, hnow, List.append_assoc, List.cons_append]
        exact (List.perm_middle (a := j.r)).symm
      refine stepJ j hjm _ ho a.tmps a.defers w Lc _ (hI.kp.perm hp0) hf K fun v w' hk => hK _ _ ⟨Lc, hI.put hok hJ hs mono ho hd hu hr (fun p hp => hp) ?_ (fun hno => absurd rfl (hno j hjm))⟩
      have hdn : j.d < a.tmps.size := by
        obtain ⟨⟨d', e, hlt⟩, _⟩ := slots_op hok ho
        rw [hd] at e
        cases e
        rw [hI.size]
        exact hlt
      have hnow' : j.now (listed.setIfInBounds j.i true) (a.tmps.setIfInBounds j.d v) = ⟨v, j.r.e, j.r.sz, j.n, j.xs⟩ := by
        unfold Job.now Job.row
        rw [if_pos (listed_self (by omega)), set_self v hdn]
      have hoth : ∀ k ∈ A ++ B, k.now (listed.setIfInBounds j.i true) (a.tmps.setIfInBounds j.d v) = k.now listed a.tmps := by
        intro k hk'
        have hki := hAB k hk'
        have hkm : k ∈ J := by
          rw [eJ]
          rcases List.mem_append.1 hk' with q | q
          · exact List.mem_append_left _ q
          · exact List.mem_append_right _ (List.mem_cons_of_mem _ q)
        obtain ⟨o2, ho2, hd2⟩ := hJ.at' k hkm
        have hne : j.d ≠ k.d := fun e => hki (slots_ne hok ho2 ho hd2 (by rw [← e]; exact hd))
        unfold Job.now Job.row
        rw [getD_set_ne false (Ne.symm hki), set_put v hne]
      refine hk.perm ?_
      rw [eJ, List.map_append, List.map_cons, hnow', List.append_assoc, List.cons_append, List.map_congr_left (fun k hk' => hoth k (List.mem_append_left _ hk')), List.map_congr_left (fun k hk' => hoth k (List.mem_append_right _ hk'))]
      exact List.perm_middle
    · have hno : ∀ j ∈ J, j.i ≠ i := fun j hjm e => hj ⟨j, hjm, e⟩
      refine stepN i ops[i] d ho hd hno a.tmps a.defers w Lc _ hI.kp hf K fun v w' Lc' hk hsub hS => hK _ _ ⟨Lc', hI.put hok hJ hs mono ho hd hu hr hsub ?_ (fun _ => hS)⟩
      have hsame : J.map (·.now (listed.setIfInBounds i true) (a.tmps.setIfInBounds d v)) = J.map (·.now listed a.tmps) := by
        apply List.map_congr_left
        intro j hjm
        obtain ⟨o2, ho2, hd2⟩ := hJ.at' j hjm
        have hne : d ≠ j.d := fun e => hno j hjm (slots_ne hok ho2 ho hd2 (by rw [← e]; exact hd))
        unfold Job.now Job.row
        rw [getD_set_ne false (Ne.symm (hno j hjm)), set_put v hne]
      rw [hsame]
      exact hk
  · rintro listed a w hs ⟨Lc, hI⟩ hr
    have hall := all_listed hs (fun i o ho => (slots_op hok ho).2.2) hr
    have hrow : J.map (·.now listed a.tmps) = J.map (·.row a.tmps) := by
      apply List.map_congr_left
      intro j hjm
      obtain ⟨o2, ho2, _⟩ := hJ.at' j hjm
      unfold Job.now
      rw [if_pos (hall j.i (Array.getElem?_eq_some_iff.1 ho2).1)]
    have := hend a.tmps w Lc hI.size (by rw [← hrow]; exact hI.kp) hI.sub hI.old fun i o d ho hd hj => hI.got i o d ho hd (hall i (Array.getElem?_eq_some_iff.1 ho).1) (fun j hjm e => by
      rw [List.contains_eq_mem, decide_eq_false_iff_not] at hj
      exact hj (by rw [← e]; exact List.mem_map.2 ⟨j, hjm, rfl⟩))
    have he := hI.defers
    obtain ⟨T, D⟩ := a
    simp only at he
    subst he
    exact this
section
variable {W : World} {L : List (Nat × Obj)} {R0 : List Rw} {J : List Job} {a0 : Act} {S : Nat → List (Nat × Obj) → Value → Option Value → Prop} {src : Nat → Option Nat}
/-- the law, the operations one by one -/
theorem wp_region_kps_tail {id : Nat} {w0 : World} {full : Array Oper} (n : Nat) (hn : ((full.toList.take n).toArray).size = n) (htail : tailOk full n = true) (W : World) (L : List (Nat × Obj)) (R0 : List Rw) (J : List Job) (l : List (Nat × Nat)) (hm : P.follows .mixedOrders = true) (S : Nat → List (Nat × Obj) → Value → Option Value → Prop)
    (hok : slotsOk ((full.toList.take n).toArray) a0.tmps.size = true) (hat : ∀ j ∈ J, ∃ o, (full.toList.take n).toArray[j.i]? = some o ∧ o.dst = some j.d) (hnd : (J.map (·.i)).Nodup) (hsrc : srcOk ((full.toList.take n).toArray) l = true) (mono : ∀ d l l' v u, S d l v u → (∀ p ∈ l, p ∈ l') → S d l' v u) (h0 : Kp L (J.map (·.r) ++ R0) W w0)
    (steps : StepsK P Q W L R0 J a0 ((full.toList.take n).toArray) S (srcOf l) 0 (full.toList.take n))
    (hend : ∀ (T : Array Value) (w : World) (Lc : List (Nat × Obj)), T.size = a0.tmps.size → Kp Lc (J.map (·.row T) ++ R0) W w → (∀ p ∈ L, p ∈ Lc) → (∀ t, (dstsOf ((full.toList.take n).toArray)).contains t = false → T[t]?.getD undef = a0.tmps[t]?.getD undef) →
      (∀ (i : Nat) (o : Oper) (d : Nat), (full.toList.take n).toArray[i]? = some o → o.dst = some d → (J.map (·.i)).contains i = false → S d Lc (T[d]?.getD undef) ((srcOf l d).map fun t => T[t]?.getD undef)) → TailWp P Q (full.toList.drop n) ⟨T, a0.defers⟩ w) : (Code.region id full true).wp P Q a0 w0 :=
  wp_region_kp_tail full n rfl hn htail W L R0 J (srcOf l) hm S hok ⟨hat, hnd, fun i o d t => srcOk_spec hsrc i o d t⟩ mono h0
    (fun i o d ho hd hj => by
      have := (stepsK_at steps (i := i) (by rw [← Array.getElem?_toList] at ho; exact ho)).1 d hd (by
        rw [List.contains_eq_mem, decide_eq_false_iff_not]
        intro hm
        obtain ⟨j, hjm, e⟩ := List.mem_map.1 hm
        exact hj j hjm (by omega))
      rw [Nat.zero_add] at this
      exact this)
    (fun j hj o ho => (stepsK_at steps (i := j.i) (by rw [← Array.getElem?_toList] at ho; exact ho)).2 j hj (by omega)) hend
end
end
theorem job_append {o : Oper} {a : Act} {K : Act → World → Prop} {Q : Exit → Act → World → Prop} {w : World} (hgd : o.guard = none) (s x : Operand) (t : TypeId)
    (ho : o.op = .call { callee := .builtin .append, args := #[s, x], argTypes := #[t, t] }) {L : List (Nat × Obj)} {R : List Rw} {W : World} {v : Value} {e : TypeId} {size n : Nat} {xs : List Value} (h : Kp L (⟨v, e, size, n, xs⟩ :: R) W w)
    (i : TypeInfo) (z : Value) (bytes : Nat) (ht : Tryd.prog.underlying t = some (.slice e)) (hi : Tryd.prog.info? e = some i) (hz : i.zero = some z) (hsize : i.size = size) (hby : i.bytes = bytes) (hzs : z.cells.size = size) (hsz : 0 < size)
    (hs : a.eval s = v) {B : Nat} {cs : Array Value} {T : TypeId} (hL : (B, Obj.cells cs T (0, 0)) ∈ L) (m c : Nat) (hx : a.eval x = .slice (some ⟨B, 0, none⟩) m c) (hl : cs.toList.length = m * size) (h1 : ∀ u ∈ cs.toList, u.oneCell' = true)
    (hm : 0 < m) (hmax : n + m ≤ 1000000) (hb : bytes ≤ 1000)
    (hK : ∀ v' w', Kp L (⟨v', e, size, n + m, xs ++ cs.toList⟩ :: R) W w' → K (a.put o.dst v') w') : Oper.wp Tryd.prog o a w K Q := by
  obtain ⟨idx, hidx, e1⟩ := List.getElem_of_mem hL
  have := step_append_kp (ops := #[]) (E := True) (Q := Q) hgd s x t ho h i z bytes ht hi hz hsize hby hzs hsz hs idx B cs T (by rw [List.getElem?_eq_getElem hidx, e1]) m c hx hl h1 hm hmax hb (fun g cap w' hk => hK _ _ hk)
  rw [if_pos (by unfold Region.wanted; rw [hgd])] at this
  exact this
end Go.Proofs.YtnffecoohkanhaaDoor.Py
