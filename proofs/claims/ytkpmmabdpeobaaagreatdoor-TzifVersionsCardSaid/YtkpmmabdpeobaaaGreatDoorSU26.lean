/- A region that draws its order, by an invariant: each operation is looked at once, whatever stands ahead of it. No program in sight. A region that draws its order, whose operations each have a slot of their own: what the slots hold at the end, whatever the order. No program in sight. -/
import Derived.RegionTactic
import Derived.Below
namespace Go.Proofs.YtkpmmabdpeobaaaGreatDoor.Px
section
variable {P : Program} {ops : Array Oper} {Q : Exit → Act → World → Prop} {md : Region.Mode}
def unlisted (ops : Array Oper) (listed : Array Bool) : Nat := ((List.range ops.size).filter (fun i => !listed.getD i true)).length
theorem ready_mem {listed : Array Bool} {i : Nat} (h : i ∈ Region.ready md ops listed) : i < ops.size ∧ listed.getD i true = false ∧ ∀ o, ops[i]? = some o → ∀ e ∈ o.after, Region.binds md e = true → listed.getD e.on false = true := by
 unfold Region.ready at h
 obtain ⟨h1, h2⟩ := List.mem_filter.1 h
 simp only [Bool.and_eq_true, Bool.not_eq_true'] at h2
 refine ⟨List.mem_range.1 h1, h2.1, fun o ho e he hb => ?_⟩
 have h3 := h2.2
 rw [ho] at h3
 simp only [Option.map_some, Option.getD_some] at h3
 have h4 := Array.all_eq_true'.1 h3 e he
 simpa [hb] using h4
theorem unlisted_set {listed : Array Bool} (hs : listed.size = ops.size) {i : Nat} (hi : i < ops.size) (h : listed.getD i true = false) : unlisted ops (listed.setIfInBounds i true) < unlisted ops listed := by
 unfold unlisted
 have key : ∀ j, (listed.setIfInBounds i true).getD j true = if j = i then true else listed.getD j true := by
  intro j
  simp only [Array.getD_eq_getD_getElem?, Array.getElem?_setIfInBounds]
  by_cases hj : i = j
  · subst hj
    rw [if_pos rfl, if_pos rfl, if_pos (by omega)]
    rfl
  · rw [if_neg hj, if_neg (fun e => hj e.symm)]
 have e : (List.range ops.size).filter (fun j => !(listed.setIfInBounds i true).getD j true) = ((List.range ops.size).filter (fun j => !listed.getD j true)).filter (fun j => decide (j ≠ i)) := by
  rw [List.filter_filter]
  congr 1
  funext j
  rw [key]
  by_cases hj : j = i <;> simp [hj]
 rw [e]
 refine List.length_filter_lt_length_iff_exists.2 ⟨i, List.mem_filter.2 ⟨List.mem_range.2 hi, by rw [h]; rfl⟩, by simp⟩
theorem wpAny_inv (I : Array Bool → Act → World → Prop)
 (hstep : ∀ listed a w i, listed.size = ops.size → I listed a w → i ∈ Region.ready md ops listed → wpOp P ops Q i (fun a' w' => I (listed.setIfInBounds i true) a' w') a w)
 (hend : ∀ listed a w, listed.size = ops.size → I listed a w → Region.ready md ops listed = [] → Q .normal a w) :
 ∀ (fuel : Nat) (listed : Array Bool) (a : Act) (w : World), listed.size = ops.size → unlisted ops listed ≤ fuel → I listed a w → wpAny P md ops Q fuel listed a w
 | 0, listed, a, w, hs, hf, hI => by
   have hr : Region.ready md ops listed = [] := by
    rw [List.eq_nil_iff_forall_not_mem]
    intro i hi
    obtain ⟨h1, h2, _⟩ := ready_mem hi
    have := unlisted_set hs h1 h2
    omega
   exact ⟨hr, hend _ _ _ hs hI hr⟩
 | fuel + 1, listed, a, w, hs, hf, hI => by
   refine ⟨fun h0 => hend _ _ _ hs hI h0, fun i hi => ?_⟩
   obtain ⟨h1, h2, _⟩ := ready_mem hi
   have h3 := unlisted_set hs h1 h2
   exact wpOp_mono (fun a' w' h => wpAny_inv I hstep hend fuel _ a' w' (by simpa using hs) (by omega) h) (hstep listed a w i hs hI hi)
theorem wp_region_inv {id : Nat} {a : Act} {w : World} (hm : P.follows .mixedOrders = true) (I : Array Bool → Act → World → Prop) (h0 : I (Array.replicate ops.size false) a w.drew)
 (hstep : ∀ listed a w i, listed.size = ops.size → I listed a w → i ∈ Region.ready .any ops listed → wpOp P ops Q i (fun a' w' => I (listed.setIfInBounds i true) a' w') a w)
 (hend : ∀ listed a w, listed.size = ops.size → I listed a w → Region.ready .any ops listed = [] → Q .normal a w) : (Code.region id ops true).wp P Q a w :=
 wp_region_any hm (wpAny_inv I hstep hend ops.size _ a _ (by simp) (by unfold unlisted; exact Nat.le_trans (List.length_filter_le _ _) (by simp)) h0)
theorem all_listed {listed : Array Bool} (hs : listed.size = ops.size) (hlow : ∀ (i : Nat) (o : Oper), ops[i]? = some o → ∀ e ∈ o.after, e.on < i) (h : Region.ready md ops listed = []) : ∀ i, i < ops.size → listed.getD i false = true := by
 intro i
 induction i using Nat.strongRecOn with
 | _ i ih =>
   intro hi
   by_cases hl : listed.getD i true = true
   · rw [Array.getD_eq_getD_getElem?, Array.getElem?_eq_getElem (by omega)] at hl ⊢
     exact hl
   · exfalso
     have hmem : i ∈ Region.ready md ops listed := by
      unfold Region.ready
      refine List.mem_filter.2 ⟨List.mem_range.2 hi, ?_⟩
      simp only [Bool.and_eq_true, Bool.not_eq_true']
      refine ⟨by simpa using hl, ?_⟩
      rw [Array.getElem?_eq_getElem hi]
      simp only [Option.map_some, Option.getD_some]
      refine Array.all_eq_true'.2 fun e he => ?_
      have h1 := hlow i ops[i] (Array.getElem?_eq_getElem hi) e he
      rw [ih e.on h1 (by omega)]
      simp
     rw [h] at hmem
     cases hmem
end
end Go.Proofs.YtkpmmabdpeobaaaGreatDoor.Px
namespace Go.Proofs.YtkpmmabdpeobaaaGreatDoor.Px
open Go.RowKit
section
variable {P : Program} {ops : Array Oper} {Q : Exit → Act → World → Prop} {md : Region.Mode}
def dstsOf (ops : Array Oper) : List Nat := ops.toList.filterMap (·.dst)
def slotsOk (ops : Array Oper) (n : Nat) : Bool :=
 (List.range ops.size).all (fun i => match ops[i]? with | some o => (match o.dst with | some d => decide (d < n) | none => false) && o.guard.isNone && o.after.all (fun e => decide (e.on < i)) | none => true) &&
 decide ((ops.toList.map (·.dst)).Nodup)
structure RI (w0 : World) (a0 : Act) (ops : Array Oper) (S : Nat → World → Value → Prop) (listed : Array Bool) (a : Act) (w : World) : Prop where
 below : Below w0.heap.size w0 w
 defers : a.defers = a0.defers
 size : a.tmps.size = a0.tmps.size
 old : ∀ t, (dstsOf ops).contains t = false → a.tmps[t]?.getD undef = a0.tmps[t]?.getD undef
 got : ∀ (i : Nat) (o : Oper) (d : Nat), ops[i]? = some o → o.dst = some d → listed.getD i false = true → S d w (a.tmps[d]?.getD undef)
theorem slots_op {n : Nat} (h : slotsOk ops n = true) {i : Nat} {o : Oper} (ho : ops[i]? = some o) : (∃ d, o.dst = some d ∧ d < n) ∧ o.guard = none ∧ ∀ e ∈ o.after, e.on < i := by
 unfold slotsOk at h
 rw [Bool.and_eq_true] at h
 have hi : i < ops.size := (Array.getElem?_eq_some_iff.1 ho).1
 have h1 := List.all_eq_true.1 h.1 i (List.mem_range.2 hi)
 rw [ho] at h1
 simp only [Bool.and_eq_true, Option.isNone_iff_eq_none, Array.all_eq_true_iff_forall_mem, decide_eq_true_eq] at h1
 obtain ⟨⟨h2, h3⟩, h4⟩ := h1
 refine ⟨?_, h3, h4⟩
 cases hd : o.dst with
 | none => rw [hd] at h2; cases h2
 | some d => rw [hd] at h2; exact ⟨d, rfl, by simpa using h2⟩
theorem slots_ne {n : Nat} (h : slotsOk ops n = true) {i j : Nat} {o o' : Oper} {d : Nat} (ho : ops[i]? = some o) (ho' : ops[j]? = some o') (hd : o.dst = some d) (hd' : o'.dst = some d) : i = j := by
 unfold slotsOk at h
 rw [Bool.and_eq_true] at h
 have hn := of_decide_eq_true h.2
 have e1 : (ops.toList.map (·.dst))[i]? = some (some d) := by rw [List.getElem?_map, Array.getElem?_toList, ho, Option.map_some, hd]
 have e2 : (ops.toList.map (·.dst))[j]? = some (some d) := by rw [List.getElem?_map, Array.getElem?_toList, ho', Option.map_some, hd']
 have l1 := (List.getElem?_eq_some_iff.1 e1)
 have l2 := (List.getElem?_eq_some_iff.1 e2)
 obtain ⟨b1, c1⟩ := l1
 obtain ⟨b2, c2⟩ := l2
 exact (List.getElem_inj hn).1 (c1.trans c2.symm)
theorem dst_mem {i : Nat} {o : Oper} {d : Nat} (ho : ops[i]? = some o) (hd : o.dst = some d) : (dstsOf ops).contains d = true := by
 unfold dstsOf
 rw [List.contains_eq_mem]
 exact decide_eq_true (List.mem_filterMap.2 ⟨o, Array.mem_toList_iff.2 (Array.mem_of_getElem? ho), hd⟩)
theorem mem_dst {d : Nat} (h : (dstsOf ops).contains d = true) : ∃ (i : Nat) (o : Oper), ops[i]? = some o ∧ o.dst = some d := by
 unfold dstsOf at h
 rw [List.contains_eq_mem] at h
 obtain ⟨o, ho, hd⟩ := List.mem_filterMap.1 (of_decide_eq_true h)
 obtain ⟨i, hi, e⟩ := List.getElem_of_mem ho
 refine ⟨i, o, ?_, hd⟩
 rw [← Array.getElem?_toList, List.getElem?_eq_getElem hi, e]
theorem RI.put {w0 : World} {a0 : Act} {S : Nat → World → Value → Prop} {listed : Array Bool} {a : Act} {w w' : World} (h : RI w0 a0 ops S listed a w) (hok : slotsOk ops a0.tmps.size = true)
 (mono : ∀ d w w' v, S d w v → Below w.heap.size w w' → S d w' v) {i : Nat} {o : Oper} {d : Nat} (ho : ops[i]? = some o) (hd : o.dst = some d) {v : Value} (hB : Below w.heap.size w w') (hv : S d w' v) :
 RI w0 a0 ops S (listed.setIfInBounds i true) (a.put (some d) v) w' := by
 have hdn : d < a.tmps.size := by
  obtain ⟨⟨d', e, hlt⟩, _⟩ := slots_op hok ho
  rw [hd] at e
  cases e
  rw [h.size]
  exact hlt
 refine ⟨h.below.trans (hB.mono h.below.size), h.defers, by simp [Act.put, h.size], fun t ht => ?_, fun j o' d' ho' hd' hj => ?_⟩
 · have hne : d ≠ t := fun e => by rw [← e, dst_mem ho hd] at ht; cases ht
   show (a.tmps.setIfInBounds d v)[t]?.getD undef = _
   rw [Array.getElem?_setIfInBounds_ne hne]
   exact h.old t ht
 · show S d' w' ((a.tmps.setIfInBounds d v)[d']?.getD undef)
   by_cases hij : i = j
   · subst hij
     rw [ho] at ho'
     cases ho'
     rw [hd] at hd'
     cases hd'
     rw [Array.getElem?_setIfInBounds_self_of_lt hdn]
     exact hv
   · have hne : d ≠ d' := fun e => hij (slots_ne hok ho ho' hd (by rw [e]; exact hd'))
     rw [Array.getElem?_setIfInBounds_ne hne]
     refine mono _ _ _ _ (h.got j o' d' ho' hd' ?_) hB
     rwa [getD_set_ne false hij] at hj
theorem dep {o : Oper} {S : Nat → World → Value → Prop} {w : World} {T : Array Value} (h : ∀ e ∈ o.after, Region.binds .any e = true → ∀ (o' : Oper) (d' : Nat), ops[e.on]? = some o' → o'.dst = some d' → S d' w (T[d']?.getD undef)) (k : Nat)
 (hk : o.after.any (fun e => e.on == k && Region.binds .any e) = true) {o' : Oper} {d' : Nat} (ho : ops[k]? = some o') (hd : o'.dst = some d') : S d' w (T[d']?.getD undef) := by
 obtain ⟨e, he, hb⟩ := Array.any_eq_true'.1 hk
 simp only [Bool.and_eq_true, beq_iff_eq] at hb
 exact h e he hb.2 o' d' (by rw [hb.1]; exact ho) hd
def StepOk (P : Program) (ops : Array Oper) (Q : Exit → Act → World → Prop) (a0 : Act) (w0 : World) (S : Nat → World → Value → Prop) (o : Oper) (d : Nat) : Prop :=
 ∀ (T : Array Value) (D : List Deferred) (w : World), Below w0.heap.size w0 w →
  (∀ t, (dstsOf ops).contains t = false → T[t]?.getD undef = a0.tmps[t]?.getD undef) →
  (∀ e ∈ o.after, Region.binds .any e = true → ∀ (o' : Oper) (d' : Nat), ops[e.on]? = some o' → o'.dst = some d' → S d' w (T[d']?.getD undef)) →
  ∀ K : Act → World → Prop, (∀ v w', Below w.heap.size w w' → S d w' v → K (Act.put ⟨T, D⟩ (some d) v) w') → o.wp P ⟨T, D⟩ w K Q
def StepsOk (P : Program) (ops : Array Oper) (Q : Exit → Act → World → Prop) (a0 : Act) (w0 : World) (S : Nat → World → Value → Prop) : List Oper → Prop
 | [] => True
 | o :: r => (∀ d, o.dst = some d → StepOk P ops Q a0 w0 S o d) ∧ StepsOk P ops Q a0 w0 S r
theorem steps_at {a0 : Act} {w0 : World} {S : Nat → World → Value → Prop} : ∀ {r : List Oper} {i : Nat} {o : Oper} {d : Nat}, StepsOk P ops Q a0 w0 S r → r[i]? = some o → o.dst = some d → StepOk P ops Q a0 w0 S o d
 | [], _, _, _, _, h, _ => by simp at h
 | x :: r, 0, o, d, h, ho, hd => by
   simp only [List.getElem?_cons_zero, Option.some.injEq] at ho
   subst ho
   exact h.1 d hd
 | x :: r, i + 1, o, d, h, ho, hd => steps_at h.2 (by simpa using ho) hd
end
end Go.Proofs.YtkpmmabdpeobaaaGreatDoor.Px
