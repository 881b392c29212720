/- The law LinklinePrints returns true for every link and every string, and its tied card holds; no condition beyond the row itself. -/
import Derived.Test.YticmkjcaekhgpaaDoorLinkE
import Derived.Lib.SmallJoins
namespace Go.Proofs.YticmkjcaekhgpaaDoor
open Go.ChangeShapes Go.WideShapes Go.ChangeAt Go.RowKit
open Go.ChangeMaps (open_string)

theorem strs_big {W : World} {b : Nat} {cs : Array Value} (S : List ByteArray) (h : W.heap[b]? = some (.cells cs 9)) (hcs : cs = (S.map Value.string).toArray) (hs : ∀ s ∈ S, s.size ≤ maxLen) : StrsAt W (some ⟨b, 0, none⟩) S := by
  right
  refine ⟨b, 0, rfl, fun i hi => ?_⟩
  have hm := hs S[i] (List.getElem_mem hi)
  rw [getD_lt hi]
  refine ⟨?_, hm⟩
  subst hcs
  simp [World.cell?, h, hi]
theorem few23_is (v : Bool) (S : List ByteArray) (len : Nat) (hlen : len = S.length) (a : Option Addr) (c : Nat) (W : World) (hS : StrsAt W a S) (hl : S.length ≤ maxLen) (hv : (S.all (fun s => decide (s.size ≤ 200)) && decide (S.length ≤ 10)) = v) :
    Calls Tryd.prog 23 #[.slice a len c] W fun e w' => e = .returned (.bool v) ∧ W = w' := by
  subst hv hlen
  exact few23 S a c W hS hl

set_option maxHeartbeats 4000000 in
theorem linklinePrints_walk (t n : ByteArray) (ht : t.size ≤ maxLen) (hn : n.size ≤ maxLen) (s : ByteArray) (hs : s.size ≤ maxLen) (W : World) :
    Calls Tryd.prog 7 #[.agg #[.string t, .string n], .string s] W fun e w' => e = .returned (.bool true) ∧ Below W.heap.size W w' := by
  have hall : ∀ x ∈ [t, n, s], x.size ≤ maxLen := by
    intro x hx
    simp at hx
    rcases hx with rfl | rfl | rfl <;> assumption
  have HA := Lib.hid hall
  have c29 := fun V => print29 t n ht hn V
  have c30 := fun V => refPrint30 t n ht hn V
  have c31 := fun V => printShift31 s hs V
  have c32 := fun V => refPrintShift32 s hs V
  generalize bytesOf (lineL [76, 105, 110, 107] zoneOk [t, n]) = o1 at c29 c30
  generalize lineE zoneOk [t, n] = e1 at c29 c30
  generalize bytesOf (lineL [83, 104, 105, 102, 116] setOk [s]) = o2 at c31 c32
  generalize lineE setOk [s] = e2 at c31 c32
  have C29 := Lib.hid c29
  have C30 := Lib.hid c30
  have C31 := Lib.hid c31
  have C32 := Lib.hid c32
  obtain ⟨v, hv⟩ : ∃ v, ([t, n, s].all (fun s => decide (s.size ≤ 200)) && decide ([t, n, s].length ≤ 10)) = v := ⟨_, rfl⟩
  have HV := Lib.hid hv
  clear hall c29 c30 c31 c32 hv ht hn hs
  have hB0 : Below W.heap.size W ((W.alloc (.cells #[.string t, .string n] 34)).alloc (.cells #[.string t, .string n, .string s] 9)) := ((Below.refl _ W).alloc (Nat.le_refl _) _).alloc (by simp) _
  go_enter Tryd.func7, Tryd.ntmps7
  go_wp2_with fail
  refine (few23_is v [t, n, s] 3 rfl _ _ _ (strs_big [t, n, s] (cs := #[.string t, .string n, .string s]) (heap_alloc_at (by simp)) rfl HA.out) (by unfold maxLen; simp) HV.out).mono ?_
  rintro e w' ⟨rfl, rfl⟩
  cases v
  · go_wp2_with fail
    refine (works24 _).mono ?_
    rintro e w1 ⟨rfl, h1⟩
    go_wp2
    go_ret
    exact ⟨rfl, hB0.trans (h1.mono (by simp; omega))⟩
  · have HB0 := Lib.hid hB0
    clear hB0
    go_wp2_with fail
    refine (C29.out _).mono ?_
    rintro e V1 ⟨rfl, h1⟩
    have p0 : V1.cell? ⟨W.heap.size, 0, none⟩ = some (.string t) := (h1.cell (p := ⟨W.heap.size, 0, none⟩) (by simp; omega)).trans (by go_simp)
    have p1 : V1.cell? ⟨W.heap.size, 1, none⟩ = some (.string n) := (h1.cell (p := ⟨W.heap.size, 1, none⟩) (by simp; omega)).trans (by go_simp)
    have B1 := Lib.hid (HB0.out.trans (h1.mono HB0.out.size))
    clear h1
    go_wp2_with fail
    refine (C30.out _).mono ?_
    rintro e V2 ⟨rfl, h2⟩
    have B2 := Lib.hid (B1.out.trans (h2.mono B1.out.size))
    clear h2
    go_wp2_with fail
    refine (C31.out _).mono ?_
    rintro e V3 ⟨rfl, h3⟩
    have B3 := Lib.hid (B2.out.trans (h3.mono B2.out.size))
    clear h3
    go_wp2_with fail
    refine (C32.out _).mono ?_
    rintro e w' ⟨rfl, rfl⟩
    go_wp2_with fail
    refine (works24 _).mono ?_
    rintro e V4 ⟨rfl, h4⟩
    go_wp2
    go_ret
    exact ⟨rfl, B3.out.trans (h4.mono B3.out.size)⟩
namespace linklinePrints
theorem own : ownKnob Tryd.prog.godebug = none := by kernel_rfl
set_option maxRecDepth 100000 in
theorem lifted (os : Os) (started : os.Started) (H : Type) (enc : TypeId × Value → H) :
    ReturnsInHanded {} Tryd.checked os 7 .any (fun w args => (Rows.linklinePrintsSpec.pre enc Tryd.prog Tryd.f7 Rows.linklinePrintsRow.domain false w args ∧ laidMetH Tryd.prog Rows.linklinePrintsRow.laid w) ∧ sizedMet enc Tryd.prog Tryd.f7 (OpenSpec.ofChange Rows.linklinePrintsSpec) false w args)
      (Rows.linklinePrintsSpec.post enc Tryd.prog Tryd.f7 false true false false) := by
  refine returnsInHanded_of_change_and (C := Tryd.checked) (X := fun w _ => laidMetH Tryd.prog Rows.linklinePrintsRow.laid w) (fun _ _ _ hh h => h.of_heap hh) own started (by kernel_rfl) Tryd.func7
    (ChangeSpec.witness_shaped (enc := enc) (C := Tryd.checked) (os := os) (X := fun w _ => laidMetH Tryd.prog Rows.linklinePrintsRow.laid w) false (World.laidAll Tryd.prog os Rows.linklinePrintsRow.laid) #[.agg #[.string ByteArray.empty, .string ByteArray.empty], .string ByteArray.empty] 8 (World.laidAll_os _ _ _)
      (World.shaped_of_ZipB (by kernel_rfl) (by kernel_rfl)) (by kernel_rfl) (by kernel_rfl) (by kernel_rfl)
      (by rw [MakeChecks.laidMetH_plain _ _ _ (by kernel_rfl)]; exact laidMet_laidAll _ (by kernel_rfl) (by kernel_rfl))) ?_
  intro W base args ds gs before hval0 hW _ _ _ _
  have hval : ∀ (j : Nat) t v, Tryd.f7.params[j]? = some t → args[j]? = some v → Value.okWide Tryd.prog W .any base t v := hval0
  have hW' := hW
  obtain ⟨p, q, hA0, hV, rfl, _, _⟩ := hW
  have hA : DataW.TrodAll enc Tryd.prog W 0 (fun _ => true) true Tryd.f7.params.toList args.toList ds p := hA0
  rw [Tryd.params7] at hA hval
  obtain ⟨v0, vs0, d0, ds0, p0, q0, hargs, rfl, rfl, h0, r0⟩ := trodAll_cons hA
  obtain ⟨v1, vs1, d1, ds1, p1, q1, rfl, rfl, rfl, h1, r1⟩ := trodAll_cons r0
  obtain ⟨rfl, rfl, rfl⟩ := trodAll_nil r1
  obtain rfl : args = #[v0, v1] := by cases args; simp_all
  obtain ⟨rfl, rfl⟩ := trodVars_none hV
  obtain ⟨u0, w0, y0, z0, m0, rfl, rfl, rfl, hy0, hz0⟩ := Joins.open_agg2 Tryd.underlying34 (by kernel_rfl) (show Tryd.prog.cellsOf 34 = 2 by kernel_rfl) (hval 0 34 v0 rfl rfl) h0
  obtain ⟨t0, et0, rfl, ht0⟩ := DataW.trod_string Tryd.underlying9 hy0
  obtain ⟨n0, en0, rfl, hn0⟩ := DataW.trod_string Tryd.underlying9 hz0
  simp at et0 en0
  subst et0 en0
  obtain ⟨s1, rfl, rfl, rfl, hs1⟩ := open_string Tryd.underlying9 (hval 1 9 v1 rfl rfl) h1
  refine (linklinePrints_walk t0 n0 ht0 hn0 s1 hs1 W).mono fun e W' ⟨he, hB⟩ => ?_
  subst he
  refine ⟨_, rfl, post_law (by kernel_rfl) ?_ rfl hW' rfl rfl Tryd.underlying4 hB⟩
  rw [Tryd.params7]
  intro t ht
  have hall : ([34, 9].all fun u => Tryd.prog.readableRec u && decide (u < Tryd.prog.types.size)) = true := by kernel_rfl
  have h1 := List.all_eq_true.1 hall t ht
  have h2 : Tryd.prog.readableRec t = true ∧ t < Tryd.prog.types.size := by simpa using h1
  exact h2

theorem said : Rows.LinklinePrintsSaid :=
  OpenClaim.holds_of_wide 7 Tryd.f7 rfl rfl rfl rfl rfl rfl rfl ⟨rfl, rfl, rfl, rfl, rfl⟩ rfl rfl rfl rfl rfl (by kernel_rfl) Tryd.func7 (by kernel_rfl)
    (of_decide_eq_true (by kernel_rfl)) (by unfold Func.isWrapper; first | (rw [if_pos (by decide +kernel)]; kernel_rfl) | (rw [if_neg (by decide +kernel)]; exact ⟨rfl, rfl⟩))
    (fun os started H enc _ => lifted os started H enc)
theorem plain (f : FuncId) (fn : Func) (hf : Tryd.pinned.checked.prog.funcNamed "analemma/analemmalaw12.LinklinePrints" = some f) (hfn : Tryd.pinned.checked.prog.funcs[f]? = some fn) :
    false = Tryd.pinned.checked.prog.looks [] ∧ ∀ (j : Nat) t, fn.params[j]? = some t → Tryd.pinned.checked.prog.wantsStandIn t = false := by
  obtain rfl : f = 7 := Option.some.inj ((show Tryd.prog.funcNamed "analemma/analemmalaw12.LinklinePrints" = some 7 by kernel_rfl).symm.trans hf) |>.symm
  obtain rfl : fn = Tryd.f7 := (Option.some.inj (Tryd.func7.symm.trans hfn)).symm
  refine ⟨by kernel_rfl, fun j t ht => ?_⟩
  rw [Tryd.params7] at ht
  have hm : t ∈ [34, 9] := by simpa using Array.mem_of_getElem? ht
  have hall : ([34, 9].all fun u => !Tryd.prog.wantsStandIn u) = true := by kernel_rfl
  exact (show Tryd.prog.wantsStandIn t = false by simpa using List.all_eq_true.1 hall t hm)
theorem card : Rows.LinklinePrintsCardSaid :=
  Claim7.holds_tied_plain_at .later [] _ _ _ _ said (fun _ h => by cases h) (by kernel_rfl) (fun _ h => by cases h) linklinePrints_row_tie rfl ⟨rfl, rfl⟩ (by kernel_rfl) rfl plain (by kernel_rfl)
end linklinePrints
#print axioms linklinePrints.card
end Go.Proofs.YticmkjcaekhgpaaDoor
