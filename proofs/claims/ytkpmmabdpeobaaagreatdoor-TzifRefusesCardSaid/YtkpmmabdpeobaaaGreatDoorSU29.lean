/- A region that draws its order and appends to slices that the call owns: what the slots and the slices hold at the end, whatever the order. An append as one operation of a region that draws its order. -/
import Derived.Test.YtkpmmabdpeobaaaGreatDoorSU26
import Derived.Test.YtkpmmabdpeobaaaGreatDoorSU14
import Derived.Test.YtkpmmabdpeobaaaGreatDoorSU20
namespace Go.Proofs.YtkpmmabdpeobaaaGreatDoor.Px
open Go.RowKit
theorem Kp.atM {L : List (Nat × Obj)} {R : List Rw} {w X : World} (h : Kp L R w X) {b : Nat} {o : Obj} (hm : (b, o) ∈ L) : X.heap[b]? = some o := by
 obtain ⟨k, hk, e⟩ := List.getElem_of_mem hm
 exact h.at k (by rw [List.getElem?_eq_getElem hk, e])
theorem Kp.sub {L M : List (Nat × Obj)} {R R' : List Rw} {W X Y : World} (h : Kp M R W X) (k : Kp L R' W Y) (hs : ∀ p ∈ L, p ∈ M) : Kp L R W X :=
 ⟨⟨h.below, fun _ b o hk => h.atM (hs (b, o) (List.mem_of_getElem? hk)), fun p hp => h.known.own p (hs p hp), k.known.desc⟩, h.own, fun r hr g hg p hp => h.offL r hr g hg p (hs p hp), h.offR⟩
structure Job where
 i : Nat
 d : Nat
 r : Rw
 n : Nat
 xs : List Value
def Job.row (T : Array Value) (j : Job) : Rw := ⟨T[j.d]?.getD undef, j.r.e, j.r.sz, j.n, j.xs⟩
def Job.now (listed : Array Bool) (T : Array Value) (j : Job) : Rw := if listed.getD j.i false = true then j.row T else j.r
section
variable {P : Program} {ops : Array Oper} {Q : Exit → Act → World → Prop}
structure RK (W : World) (L : List (Nat × Obj)) (R0 : List Rw) (J : List Job) (a0 : Act) (ops : Array Oper) (S : Nat → List (Nat × Obj) → Value → Option Value → Prop) (src : Nat → Option Nat) (Lc : List (Nat × Obj)) (listed : Array Bool) (a : Act) (w : World) : Prop where
 sub : ∀ p ∈ L, p ∈ Lc
 kp : Kp Lc (J.map (·.now listed a.tmps) ++ R0) W w
 defers : a.defers = a0.defers
 size : a.tmps.size = a0.tmps.size
 old : ∀ t, (dstsOf ops).contains t = false → a.tmps[t]?.getD undef = a0.tmps[t]?.getD undef
 un : ∀ (i : Nat) (o : Oper) (d : Nat), ops[i]? = some o → o.dst = some d → listed.getD i false = false → a.tmps[d]?.getD undef = a0.tmps[d]?.getD undef
 closed : ∀ (i : Nat) (o : Oper), ops[i]? = some o → listed.getD i false = true → ∀ e ∈ o.after, Region.binds .any e = true → listed.getD e.on false = true
 got : ∀ (i : Nat) (o : Oper) (d : Nat), ops[i]? = some o → o.dst = some d → listed.getD i false = true → (∀ j ∈ J, j.i ≠ i) → S d Lc (a.tmps[d]?.getD undef) ((src d).map fun t => a.tmps[t]?.getD undef)
structure JobsOk (ops : Array Oper) (J : List Job) (src : Nat → Option Nat) : Prop where
 at' : ∀ j ∈ J, ∃ o, ops[j.i]? = some o ∧ o.dst = some j.d
 nodup : (J.map (·.i)).Nodup
 src : ∀ (i : Nat) (o : Oper) (d t : Nat), ops[i]? = some o → o.dst = some d → src d = some t → ∃ e ∈ o.after, Region.binds .any e = true ∧ ∃ o', ops[e.on]? = some o' ∧ o'.dst = some t
theorem set_put {T : Array Value} {d t : Nat} (v : Value) (h : d ≠ t) : (T.setIfInBounds d v)[t]?.getD undef = T[t]?.getD undef := by rw [Array.getElem?_setIfInBounds_ne h]
theorem set_self {T : Array Value} {d : Nat} (v : Value) (h : d < T.size) : (T.setIfInBounds d v)[d]?.getD undef = v := by rw [Array.getElem?_setIfInBounds_self_of_lt h]; rfl
theorem listed_self {listed : Array Bool} {i : Nat} (h : i < listed.size) : (listed.setIfInBounds i true).getD i false = true := by simp [h]
theorem RK.put {W : World} {L : List (Nat × Obj)} {R0 : List Rw} {J : List Job} {a0 : Act} {S : Nat → List (Nat × Obj) → Value → Option Value → Prop} {src : Nat → Option Nat} {Lc Lc' : List (Nat × Obj)} {listed : Array Bool} {a : Act} {w w' : World}
 (h : RK W L R0 J a0 ops S src Lc listed a w) (hok : slotsOk ops a0.tmps.size = true) (hJ : JobsOk ops J src) (hs : listed.size = ops.size) (mono : ∀ d l l' v u, S d l v u → (∀ p ∈ l, p ∈ l') → S d l' v u)
 {i : Nat} {o : Oper} {d : Nat} (ho : ops[i]? = some o) (hd : o.dst = some d) (hu : listed.getD i false = false) (hr : ∀ e ∈ o.after, Region.binds .any e = true → listed.getD e.on false = true) {v : Value}
 (hsub : ∀ p ∈ Lc, p ∈ Lc') (hk : Kp Lc' (J.map (·.now (listed.setIfInBounds i true) (a.tmps.setIfInBounds d v)) ++ R0) W w')
 (hv : (∀ j ∈ J, j.i ≠ i) → S d Lc' v ((src d).map fun t => a.tmps[t]?.getD undef)) : RK W L R0 J a0 ops S src Lc' (listed.setIfInBounds i true) (a.put (some d) v) w' := by
 have hi : i < listed.size := by rw [hs]; exact (Array.getElem?_eq_some_iff.1 ho).1
 have hdn : d < a.tmps.size := by
  obtain ⟨⟨d', e, hlt⟩, _⟩ := slots_op hok ho
  rw [hd] at e
  cases e
  rw [h.size]
  exact hlt
 have hne : ∀ {k : Nat} {o' : Oper} {d' : Nat}, ops[k]? = some o' → o'.dst = some d' → i ≠ k → d ≠ d' := fun ho' hd' hik e => hik (slots_ne hok ho ho' hd (by rw [e]; exact hd'))
 have hsrc : ∀ {k : Nat} {o' : Oper} {d' t : Nat}, ops[k]? = some o' → o'.dst = some d' → src d' = some t → (∀ e ∈ o'.after, Region.binds .any e = true → listed.getD e.on false = true) → d ≠ t := by
  intro k o' d' t ho' hd' ht hl
  obtain ⟨e, he, hb, o2, ho2, hd2⟩ := hJ.src k o' d' t ho' hd' ht
  have := hl e he hb
  exact hne ho2 hd2 (fun q => by rw [← q, hu] at this; cases this)
 refine ⟨fun p hp => hsub p (h.sub p hp), hk, h.defers, by simp [Act.put, h.size], fun t ht => ?_, fun k o' d' ho' hd' hl => ?_, fun k o' ho' hl e he hb => ?_, fun k o' d' ho' hd' hl hjk => ?_⟩
 · have : d ≠ t := fun e => by rw [← e, dst_mem ho hd] at ht; cases ht
   exact (set_put v this).trans (h.old t ht)
 · have hik : i ≠ k := fun e => by
     subst e
     rw [listed_self hi] at hl
     cases hl
   rw [getD_set_ne false hik] at hl
   exact (set_put v (hne ho' hd' hik)).trans (h.un k o' d' ho' hd' hl)
 · by_cases hik : i = k
   · subst hik
     rw [ho] at ho'
     cases ho'
     exact getD_set_true (hr e he hb)
   · rw [getD_set_ne false hik] at hl
     exact getD_set_true (h.closed k o' ho' hl e he hb)
 · show S d' Lc' ((a.tmps.setIfInBounds d v)[d']?.getD undef) ((src d').map fun t => (a.tmps.setIfInBounds d v)[t]?.getD undef)
   have hmap : ∀ (hl' : ∀ e ∈ o'.after, Region.binds .any e = true → listed.getD e.on false = true), ((src d').map fun t => (a.tmps.setIfInBounds d v)[t]?.getD undef) = (src d').map fun t => a.tmps[t]?.getD undef := by
    intro hl'
    cases ht : src d' with
    | none => rfl
    | some t =>
      rw [Option.map_some, Option.map_some]
      congr 1
      exact set_put v (hsrc ho' hd' ht hl')
   by_cases hik : i = k
   · subst hik
     rw [ho] at ho'
     cases ho'
     rw [hd] at hd'
     cases hd'
     rw [set_self v hdn, hmap hr]
     exact hv hjk
   · rw [getD_set_ne false hik] at hl
     rw [set_put v (hne ho' hd' hik), hmap (h.closed k o' ho' hl)]
     exact mono _ _ _ _ _ (h.got k o' d' ho' hd' hl hjk) hsub
structure Finds (L : List (Nat × Obj)) (J : List Job) (a0 : Act) (ops : Array Oper) (S : Nat → List (Nat × Obj) → Value → Option Value → Prop) (src : Nat → Option Nat) (i : Nat) (o : Oper) (T : Array Value) (Lc : List (Nat × Obj)) : Prop where
 sub : ∀ p ∈ L, p ∈ Lc
 old : ∀ t, (dstsOf ops).contains t = false → T[t]?.getD undef = a0.tmps[t]?.getD undef
 later : ∀ (k : Nat) (o' : Oper) (d' : Nat), ops[k]? = some o' → o'.dst = some d' → o'.after.any (fun e => e.on == i && Region.binds .any e) = true → T[d']?.getD undef = a0.tmps[d']?.getD undef
 dep : ∀ e ∈ o.after, Region.binds .any e = true → (∀ j ∈ J, j.i ≠ e.on) → ∀ (o' : Oper) (d' : Nat), ops[e.on]? = some o' → o'.dst = some d' → S d' Lc (T[d']?.getD undef) ((src d').map fun t => T[t]?.getD undef)
theorem Finds.on {L : List (Nat × Obj)} {J : List Job} {a0 : Act} {S : Nat → List (Nat × Obj) → Value → Option Value → Prop} {src : Nat → Option Nat} {i : Nat} {o : Oper} {T : Array Value} {Lc : List (Nat × Obj)} (h : Finds L J a0 ops S src i o T Lc) (k : Nat)
 (hk : o.after.any (fun e => e.on == k && Region.binds .any e) = true) (hj : (J.map (·.i)).contains k = false) {o' : Oper} {d' : Nat} (ho : ops[k]? = some o') (hd : o'.dst = some d') : S d' Lc (T[d']?.getD undef) ((src d').map fun t => T[t]?.getD undef) := by
 obtain ⟨e, he, hb⟩ := Array.any_eq_true'.1 hk
 simp only [Bool.and_eq_true, beq_iff_eq] at hb
 refine h.dep e he hb.2 (fun j hjm q => ?_) o' d' (by rw [hb.1]; exact ho) hd
 rw [List.contains_eq_mem, decide_eq_false_iff_not] at hj
 exact hj (by rw [← hb.1, ← q]; exact List.mem_map.2 ⟨j, hjm, rfl⟩)
def StepN (P : Program) (Q : Exit → Act → World → Prop) (W : World) (L : List (Nat × Obj)) (R0 : List Rw) (J : List Job) (a0 : Act) (ops : Array Oper) (S : Nat → List (Nat × Obj) → Value → Option Value → Prop) (src : Nat → Option Nat) (i : Nat) (o : Oper) (d : Nat) : Prop :=
 ∀ (T : Array Value) (D : List Deferred) (w : World) (Lc : List (Nat × Obj)) (R : List Rw), Kp Lc (R ++ R0) W w → Finds L J a0 ops S src i o T Lc →
  ∀ K : Act → World → Prop, (∀ v w' Lc', Kp Lc' (R ++ R0) W w' → (∀ p ∈ Lc, p ∈ Lc') → S d Lc' v ((src d).map fun t => T[t]?.getD undef) → K (Act.put ⟨T, D⟩ (some d) v) w') → o.wp P ⟨T, D⟩ w K Q
def StepJ (P : Program) (Q : Exit → Act → World → Prop) (W : World) (L : List (Nat × Obj)) (J : List Job) (a0 : Act) (ops : Array Oper) (S : Nat → List (Nat × Obj) → Value → Option Value → Prop) (src : Nat → Option Nat) (j : Job) (o : Oper) : Prop :=
 ∀ (T : Array Value) (D : List Deferred) (w : World) (Lc : List (Nat × Obj)) (R : List Rw), Kp Lc (j.r :: R) W w → Finds L J a0 ops S src j.i o T Lc →
  ∀ K : Act → World → Prop, (∀ v w', Kp Lc (⟨v, j.r.e, j.r.sz, j.n, j.xs⟩ :: R) W w' → K (Act.put ⟨T, D⟩ (some j.d) v) w') → o.wp P ⟨T, D⟩ w K Q
theorem split_job {J : List Job} (hn : (J.map (·.i)).Nodup) {j : Job} (hj : j ∈ J) : ∃ A B, J = A ++ j :: B ∧ ∀ k ∈ A ++ B, k.i ≠ j.i := by
 obtain ⟨A, B, e⟩ := List.append_of_mem hj
 refine ⟨A, B, e, fun k hk hki => ?_⟩
 rw [e, List.map_append, List.map_cons] at hn
 have h2 := (List.nodup_append.1 hn)
 rcases List.mem_append.1 hk with hk | hk
 · exact h2.2.2 k.i (List.mem_map.2 ⟨k, hk, rfl⟩) j.i (List.mem_cons_self ..) hki
 · exact (List.nodup_cons.1 h2.2.1).1 (List.mem_map.2 ⟨k, hk, hki⟩)
theorem wp_region_kp {id : Nat} {a0 : Act} {w0 : World} (W : World) (L : List (Nat × Obj)) (R0 : List Rw) (J : List Job) (src : Nat → Option Nat) (hm : P.follows .mixedOrders = true) (S : Nat → List (Nat × Obj) → Value → Option Value → Prop)
 (hok : slotsOk ops a0.tmps.size = true) (hJ : JobsOk ops J src) (mono : ∀ d l l' v u, S d l v u → (∀ p ∈ l, p ∈ l') → S d l' v u) (h0 : Kp L (J.map (·.r) ++ R0) W w0)
 (stepN : ∀ (i : Nat) (o : Oper) (d : Nat), ops[i]? = some o → o.dst = some d → (∀ j ∈ J, j.i ≠ i) → StepN P Q W L R0 J a0 ops S src i o d)
 (stepJ : ∀ j ∈ J, ∀ o, ops[j.i]? = some o → StepJ P Q W L J a0 ops S src j o)
 (hend : ∀ (T : Array Value) (w : World) (Lc : List (Nat × Obj)), T.size = a0.tmps.size → Kp Lc (J.map (·.row T) ++ R0) W w → (∀ p ∈ L, p ∈ Lc) → (∀ t, (dstsOf ops).contains t = false → T[t]?.getD undef = a0.tmps[t]?.getD undef) →
  (∀ (i : Nat) (o : Oper) (d : Nat), ops[i]? = some o → o.dst = some d → (J.map (·.i)).contains i = false → S d Lc (T[d]?.getD undef) ((src d).map fun t => T[t]?.getD undef)) → Q .normal ⟨T, a0.defers⟩ w) : (Code.region id ops true).wp P Q a0 w0 := by
 refine wp_region_inv hm (fun listed a w => ∃ Lc, RK W L R0 J a0 ops S src Lc listed a w) ?_ ?_ ?_
 · refine ⟨L, fun p hp => hp, ?_, rfl, rfl, fun _ _ => rfl, fun _ _ _ _ _ _ => rfl, fun i o ho hl => ?_, fun i o d ho hd hl => ?_⟩
   · have e : J.map (·.now (Array.replicate ops.size false) a0.tmps) = J.map (·.r) := by
       apply List.map_congr_left
       intro j _
       unfold Job.now
       rw [if_neg]
       simp [Array.getElem?_replicate]
       split <;> simp
     rw [e]
     exact h0.drew
   · have hlt : i < ops.size := (Array.getElem?_eq_some_iff.1 ho).1
     simp [hlt] at hl
   · have hlt : i < ops.size := (Array.getElem?_eq_some_iff.1 ho).1
     simp [hlt] at hl
 · rintro listed a w i hs ⟨Lc, hI⟩ hi
   obtain ⟨h1, h2, h3⟩ := ready_mem hi
   have ho : ops[i]? = some ops[i] := Array.getElem?_eq_getElem h1
   obtain ⟨⟨d, hd, _⟩, hg, _⟩ := slots_op hok ho
   have hu : listed.getD i false = false := by
    have hlt : i < listed.size := by omega
    simp only [Array.getD_eq_getD_getElem?, Array.getElem?_eq_getElem hlt, Option.getD_some] at h2 ⊢
    exact h2
   have hr := h3 _ ho
   have hf : Finds L J a0 ops S src i ops[i] a.tmps Lc := by
    refine ⟨hI.sub, hI.old, fun k o' d' ho' hd' hk => hI.un k o' d' ho' hd' ?_, fun e he hb hj o' d' ho' hd' => hI.got e.on o' d' ho' hd' (hr e he hb) hj⟩
    cases hl : listed.getD k false with
    | false => rfl
    | true =>
      obtain ⟨e, he, hb⟩ := Array.any_eq_true'.1 hk
      simp only [Bool.and_eq_true, beq_iff_eq] at hb
      have := hI.closed k o' ho' hl e he hb.2
      rw [hb.1, hu] at this
      cases this
   refine wpOp_step ho fun K hK => ?_
   rw [if_pos (by unfold Region.wanted; rw [hg])]
   by_cases hj : ∃ j ∈ J, j.i = i
   · obtain ⟨j, hjm, rfl⟩ := hj
     obtain ⟨o', ho', hd'⟩ := hJ.at' j hjm
     have hdj : j.d = d := by
      rw [ho] at ho'
      cases ho'
      rw [hd] at hd'
      cases hd'
      rfl
     subst hdj
     obtain ⟨A, B, eJ, hAB⟩ := split_job hJ.nodup hjm
     have hnow : j.now listed a.tmps = j.r := by unfold Job.now; rw [if_neg (by rw [hu]; decide)]
     have hp0 : (j.r :: (A.map (·.now listed a.tmps) ++ (B.map (·.now listed a.tmps) ++ R0))).Perm (J.map (·.now listed a.tmps) ++ R0) := by
      rw [eJ, List.map_append, List.map_cons, hnow, List.append_assoc, List.cons_append]
      exact (List.perm_middle (a := j.r)).symm
     refine stepJ j hjm _ ho a.tmps a.defers w Lc _ (hI.kp.perm hp0) hf K fun v w' hk => hK _ _ ⟨Lc, hI.put hok hJ hs mono ho hd hu hr (fun p hp => hp) ?_ (fun hno => absurd rfl (hno j hjm))⟩
     have hdn : j.d < a.tmps.size := by
      obtain ⟨⟨d', e, hlt⟩, _⟩ := slots_op hok ho
      rw [hd] at e
      cases e
      rw [hI.size]
      exact hlt
     have hnow' : j.now (listed.setIfInBounds j.i true) (a.tmps.setIfInBounds j.d v) = ⟨v, j.r.e, j.r.sz, j.n, j.xs⟩ := by
      unfold Job.now Job.row
      rw [if_pos (listed_self (by omega)), set_self v hdn]
     have hoth : ∀ k ∈ A ++ B, k.now (listed.setIfInBounds j.i true) (a.tmps.setIfInBounds j.d v) = k.now listed a.tmps := by
      intro k hk'
      have hki := hAB k hk'
      have hkm : k ∈ J := by
       rw [eJ]
       rcases List.mem_append.1 hk' with q | q
       · exact List.mem_append_left _ q
       · exact List.mem_append_right _ (List.mem_cons_of_mem _ q)
      obtain ⟨o2, ho2, hd2⟩ := hJ.at' k hkm
      have hne : j.d ≠ k.d := fun e => hki (slots_ne hok ho2 ho hd2 (by rw [← e]; exact hd))
      unfold Job.now Job.row
      rw [getD_set_ne false (Ne.symm hki), set_put v hne]
     refine hk.perm ?_
     rw [eJ, List.map_append, List.map_cons, hnow', List.append_assoc, List.cons_append, List.map_congr_left (fun k hk' => hoth k (List.mem_append_left _ hk')), List.map_congr_left (fun k hk' => hoth k (List.mem_append_right _ hk'))]
     exact List.perm_middle
   · have hno : ∀ j ∈ J, j.i ≠ i := fun j hjm e => hj ⟨j, hjm, e⟩
     refine stepN i ops[i] d ho hd hno a.tmps a.defers w Lc _ hI.kp hf K fun v w' Lc' hk hsub hS => hK _ _ ⟨Lc', hI.put hok hJ hs mono ho hd hu hr hsub ?_ (fun _ => hS)⟩
     have hsame : J.map (·.now (listed.setIfInBounds i true) (a.tmps.setIfInBounds d v)) = J.map (·.now listed a.tmps) := by
      apply List.map_congr_left
      intro j hjm
      obtain ⟨o2, ho2, hd2⟩ := hJ.at' j hjm
      have hne : d ≠ j.d := fun e => hno j hjm (slots_ne hok ho2 ho hd2 (by rw [← e]; exact hd))
      unfold Job.now Job.row
      rw [getD_set_ne false (Ne.symm (hno j hjm)), set_put v hne]
     rw [hsame]
     exact hk
 · rintro listed a w hs ⟨Lc, hI⟩ hr
   have hall := all_listed hs (fun i o ho => (slots_op hok ho).2.2) hr
   have hrow : J.map (·.now listed a.tmps) = J.map (·.row a.tmps) := by
    apply List.map_congr_left
    intro j hjm
    obtain ⟨o2, ho2, _⟩ := hJ.at' j hjm
    unfold Job.now
    rw [if_pos (hall j.i (Array.getElem?_eq_some_iff.1 ho2).1)]
   have := hend a.tmps w Lc hI.size (by rw [← hrow]; exact hI.kp) hI.sub hI.old fun i o d ho hd hj => hI.got i o d ho hd (hall i (Array.getElem?_eq_some_iff.1 ho).1) (fun j hjm e => by
    rw [List.contains_eq_mem, decide_eq_false_iff_not] at hj
    exact hj (by rw [← e]; exact List.mem_map.2 ⟨j, hjm, rfl⟩))
   have he := hI.defers
   obtain ⟨T, D⟩ := a
   simp only at he
   subst he
   exact this
def StepsK (P : Program) (Q : Exit → Act → World → Prop) (W : World) (L : List (Nat × Obj)) (R0 : List Rw) (J : List Job) (a0 : Act) (ops : Array Oper) (S : Nat → List (Nat × Obj) → Value → Option Value → Prop) (src : Nat → Option Nat) : Nat → List Oper → Prop
 | _, [] => True
 | i, o :: r => ((∀ d, o.dst = some d → (J.map (·.i)).contains i = false → StepN P Q W L R0 J a0 ops S src i o d) ∧ ∀ j ∈ J, j.i = i → StepJ P Q W L J a0 ops S src j o) ∧ StepsK P Q W L R0 J a0 ops S src (i + 1) r
section
variable {W : World} {L : List (Nat × Obj)} {R0 : List Rw} {J : List Job} {a0 : Act} {S : Nat → List (Nat × Obj) → Value → Option Value → Prop} {src : Nat → Option Nat}
theorem stepsK_nil {i : Nat} : StepsK P Q W L R0 J a0 ops S src i [] := trivial
theorem stepsK_n {i : Nat} {o : Oper} {r : List Oper} (d : Nat) (hd : o.dst = some d) (hj : (J.map (·.i)).contains i = false) (h : StepN P Q W L R0 J a0 ops S src i o d) (hr : StepsK P Q W L R0 J a0 ops S src (i + 1) r) : StepsK P Q W L R0 J a0 ops S src i (o :: r) :=
 ⟨⟨fun d' hd' _ => by rw [hd] at hd'; cases hd'; exact h, fun j hm e => by
  rw [List.contains_eq_mem, decide_eq_false_iff_not] at hj
  exact absurd (List.mem_map.2 ⟨j, hm, e⟩) hj⟩, hr⟩
theorem stepsK_j {i : Nat} {o : Oper} {r : List Oper} (j : Job) (hj : J.filter (·.i == i) = [j]) (h : StepJ P Q W L J a0 ops S src j o) (hr : StepsK P Q W L R0 J a0 ops S src (i + 1) r) : StepsK P Q W L R0 J a0 ops S src i (o :: r) := by
 have hm : ∀ k, (k ∈ J ∧ k.i = i) ↔ k = j := fun k => by
  have : k ∈ J.filter (·.i == i) ↔ k ∈ [j] := by rw [hj]
  rw [List.mem_filter, List.mem_singleton] at this
  simpa using this
 refine ⟨⟨fun d' hd' hc => ?_, fun k hk e => ?_⟩, hr⟩
 · rw [List.contains_eq_mem, decide_eq_false_iff_not] at hc
   exact absurd (List.mem_map.2 ⟨j, ((hm j).2 rfl).1, ((hm j).2 rfl).2⟩) hc
 · rw [(hm k).1 ⟨hk, e⟩]
   exact h
theorem stepsK_at : ∀ {r : List Oper} {k i : Nat} {o : Oper}, StepsK P Q W L R0 J a0 ops S src k r → r[i]? = some o → (∀ d, o.dst = some d → (J.map (·.i)).contains (k + i) = false → StepN P Q W L R0 J a0 ops S src (k + i) o d) ∧ ∀ j ∈ J, j.i = k + i → StepJ P Q W L J a0 ops S src j o
 | [], _, _, _, _, h => by simp at h
 | x :: r, k, 0, o, h, ho => by
   simp only [List.getElem?_cons_zero, Option.some.injEq] at ho
   subst ho
   exact h.1
 | x :: r, k, i + 1, o, h, ho => by
   have := stepsK_at (r := r) (k := k + 1) (i := i) (o := o) h.2 (by simpa using ho)
   rw [show k + 1 + i = k + (i + 1) by omega] at this
   exact this
def srcOf (l : List (Nat × Nat)) (d : Nat) : Option Nat := (l.find? (·.1 == d)).map (·.2)
def srcOk (ops : Array Oper) (l : List (Nat × Nat)) : Bool :=
 (List.range ops.size).all (fun i => match ops[i]? with
  | some o => (match o.dst with
    | some d => (match srcOf l d with
      | some t => o.after.any (fun e => Region.binds .any e && (match ops[e.on]? with | some o' => o'.dst == some t | none => false))
      | none => true)
    | none => true)
  | none => true)
theorem srcOk_spec {l : List (Nat × Nat)} (h : srcOk ops l = true) (i : Nat) (o : Oper) (d t : Nat) (ho : ops[i]? = some o) (hd : o.dst = some d) (ht : srcOf l d = some t) : ∃ e ∈ o.after, Region.binds .any e = true ∧ ∃ o', ops[e.on]? = some o' ∧ o'.dst = some t := by
 unfold srcOk at h
 have h1 := List.all_eq_true.1 h i (List.mem_range.2 (Array.getElem?_eq_some_iff.1 ho).1)
 rw [ho] at h1
 simp only [hd, ht] at h1
 obtain ⟨e, he, hb⟩ := Array.any_eq_true'.1 h1
 rw [Bool.and_eq_true] at hb
 refine ⟨e, he, hb.1, ?_⟩
 cases h2 : ops[e.on]? with
 | none => rw [h2] at hb; exact Bool.noConfusion (show false = true from hb.2)
 | some o' => rw [h2] at hb; exact ⟨o', rfl, by simpa using hb.2⟩
theorem wp_region_kps {id : Nat} {w0 : World} (W : World) (L : List (Nat × Obj)) (R0 : List Rw) (J : List Job) (l : List (Nat × Nat)) (hm : P.follows .mixedOrders = true) (S : Nat → List (Nat × Obj) → Value → Option Value → Prop)
 (hok : slotsOk ops a0.tmps.size = true) (hat : ∀ j ∈ J, ∃ o, ops[j.i]? = some o ∧ o.dst = some j.d) (hnd : (J.map (·.i)).Nodup) (hsrc : srcOk ops l = true) (mono : ∀ d l l' v u, S d l v u → (∀ p ∈ l, p ∈ l') → S d l' v u) (h0 : Kp L (J.map (·.r) ++ R0) W w0)
 (steps : StepsK P Q W L R0 J a0 ops S (srcOf l) 0 ops.toList)
 (hend : ∀ (T : Array Value) (w : World) (Lc : List (Nat × Obj)), T.size = a0.tmps.size → Kp Lc (J.map (·.row T) ++ R0) W w → (∀ p ∈ L, p ∈ Lc) → (∀ t, (dstsOf ops).contains t = false → T[t]?.getD undef = a0.tmps[t]?.getD undef) →
  (∀ (i : Nat) (o : Oper) (d : Nat), ops[i]? = some o → o.dst = some d → (J.map (·.i)).contains i = false → S d Lc (T[d]?.getD undef) ((srcOf l d).map fun t => T[t]?.getD undef)) → Q .normal ⟨T, a0.defers⟩ w) : (Code.region id ops true).wp P Q a0 w0 :=
 wp_region_kp W L R0 J (srcOf l) hm S hok ⟨hat, hnd, fun i o d t => srcOk_spec hsrc i o d t⟩ mono h0
  (fun i o d ho hd hj => by
   have := (stepsK_at steps (i := i) (by rw [Array.getElem?_toList]; exact ho)).1 d hd (by
    rw [List.contains_eq_mem, decide_eq_false_iff_not]
    intro hm
    obtain ⟨j, hjm, e⟩ := List.mem_map.1 hm
    exact hj j hjm (by omega))
   rw [Nat.zero_add] at this
   exact this)
  (fun j hj o ho => (stepsK_at steps (i := j.i) (by rw [Array.getElem?_toList]; exact ho)).2 j hj (by omega)) hend
end
theorem tmps_mix {T A : Array Value} {ops : Array Oper} (l : List Nat) (hl : dstsOf ops = l) (hs : T.size = A.size) (hold : ∀ t, (dstsOf ops).contains t = false → T[t]?.getD undef = A[t]?.getD undef) :
 T = l.foldl (fun B d => B.setIfInBounds d (T[d]?.getD undef)) A := by
 subst hl
 have hsz : ∀ (l : List Nat) (B : Array Value), (l.foldl (fun B d => B.setIfInBounds d (T[d]?.getD undef)) B).size = B.size := by
  intro l
  induction l with
  | nil => intro B; rfl
  | cons d r ih => intro B; rw [List.foldl_cons, ih, Array.size_setIfInBounds]
 have hat : ∀ (l : List Nat) (B : Array Value) (t : Nat), B.size = T.size → t < T.size → (l.foldl (fun B d => B.setIfInBounds d (T[d]?.getD undef)) B)[t]?.getD undef = if l.contains t = true then T[t]?.getD undef else B[t]?.getD undef := by
  intro l
  induction l with
  | nil => intro B t _ _; rfl
  | cons d r ih =>
    intro B t hB ht
    rw [List.foldl_cons, ih _ t (by rw [Array.size_setIfInBounds, hB]) ht]
    by_cases hr : r.contains t = true
    · rw [if_pos hr, if_pos (by simp only [List.contains_cons, hr, Bool.or_true])]
    · rw [if_neg hr]
      by_cases hd : t = d
      · subst hd
        rw [if_pos (by simp), Array.getElem?_setIfInBounds_self_of_lt (by omega)]
        rfl
      · rw [if_neg (by simpa [hd] using hr), Array.getElem?_setIfInBounds_ne (Ne.symm hd)]
 apply Array.ext
 · rw [hsz, hs]
 · intro t h1 h2
   have h3 := hat (dstsOf ops) A t hs.symm h1
   have e1 : T[t] = T[t]?.getD undef := by rw [Array.getElem?_eq_getElem h1]; rfl
   have e2 : ∀ (B : Array Value) (h : t < B.size), B[t] = B[t]?.getD undef := fun B h => by rw [Array.getElem?_eq_getElem h]; rfl
   rw [e1, e2 _ h2, h3]
   cases hc : (dstsOf ops).contains t with
   | true => rfl
   | false => rw [if_neg (by decide)]; exact hold t hc
theorem eval_tmp {T : Array Value} {D : List Deferred} {t : Nat} {v : Value} (h : T[t]?.getD undef = v) : (⟨T, D⟩ : Act).eval (.tmp t) = v := by
 show T.getD t undef = v
 rw [Array.getD_eq_getD_getElem?]
 exact h
inductive KK where
 | eq (v : Value)
 | blk (n : Nat) (cs : Array Value) (t : TypeId)
 | cp
 | any
def KK.S : KK → List (Nat × Obj) → Value → Option Value → Prop
 | .eq u, _, v, _ => v = u
 | .blk n cs t, l, v, _ => ∃ b, v = .slice (some ⟨b, 0, none⟩) n n ∧ (b, Obj.cells cs t (0, 0)) ∈ l
 | .cp, _, v, u => u = some v
 | .any, _, _, _ => True
theorem KK.mono : ∀ (k : KK) (l l' : List (Nat × Obj)) (v : Value) (u : Option Value), k.S l v u → (∀ p ∈ l, p ∈ l') → k.S l' v u
 | .eq _, _, _, _, _, h, _ => h
 | .blk _ _ _, _, _, _, _, ⟨b, h1, h2⟩, hs => ⟨b, h1, hs _ h2⟩
 | .cp, _, _, _, _, h, _ => h
 | .any, _, _, _, _, _, _ => trivial
def kkOf (l : List (Nat × KK)) (d : Nat) : KK := match l.find? (fun p => p.1 == d) with | some p => p.2 | none => KK.any
def kkS (l : List (Nat × KK)) (d : Nat) (lc : List (Nat × Obj)) (v : Value) (u : Option Value) : Prop := (kkOf l d).S lc v u
theorem kkS_mono (l : List (Nat × KK)) (d : Nat) (lc lc' : List (Nat × Obj)) (v : Value) (u : Option Value) (h : kkS l d lc v u) (hs : ∀ p ∈ lc, p ∈ lc') : kkS l d lc' v u := KK.mono _ _ _ _ _ h hs
end
end Go.Proofs.YtkpmmabdpeobaaaGreatDoor.Px
namespace Go.Proofs.YtkpmmabdpeobaaaGreatDoor.Px
open Go.RowKit
theorem job_append {o : Oper} {a : Act} {K : Act → World → Prop} {Q : Exit → Act → World → Prop} {w : World} (hgd : o.guard = none) (s x : Operand) (t : TypeId)
 (ho : o.op = .call { callee := .builtin .append, args := #[s, x], argTypes := #[t, t] }) {L : List (Nat × Obj)} {R : List Rw} {W : World} {v : Value} {e : TypeId} {size n : Nat} {xs : List Value} (h : Kp L (⟨v, e, size, n, xs⟩ :: R) W w)
 (i : TypeInfo) (z : Value) (bytes : Nat) (ht : Tryz.prog.underlying t = some (.slice e)) (hi : Tryz.prog.info? e = some i) (hz : i.zero = some z) (hsize : i.size = size) (hby : i.bytes = bytes) (hzs : z.cells.size = size) (hsz : 0 < size)
 (hs : a.eval s = v) {B : Nat} {cs : Array Value} {T : TypeId} (hL : (B, Obj.cells cs T (0, 0)) ∈ L) (m c : Nat) (hx : a.eval x = .slice (some ⟨B, 0, none⟩) m c) (hl : cs.toList.length = m * size) (h1 : ∀ u ∈ cs.toList, u.oneCell' = true)
 (hm : 0 < m) (hmax : n + m ≤ 1000000) (hb : bytes ≤ 1000)
 (hK : ∀ v' w', Kp L (⟨v', e, size, n + m, xs ++ cs.toList⟩ :: R) W w' → K (a.put o.dst v') w') : Oper.wp Tryz.prog o a w K Q := by
 obtain ⟨idx, hidx, e1⟩ := List.getElem_of_mem hL
 have := step_append_kp (ops := #[]) (E := True) (Q := Q) hgd s x t ho h i z bytes ht hi hz hsize hby hzs hsz hs idx B cs T (by rw [List.getElem?_eq_getElem hidx, e1]) m c hx hl h1 hm hmax hb (fun g cap w' hk => hK _ _ hk)
 rw [if_pos (by unfold Region.wanted; rw [hgd])] at this
 exact this
end Go.Proofs.YtkpmmabdpeobaaaGreatDoor.Px
