/- The function table.Of: the table of some changes. -/
import Derived.Test.YtlaplgaccjmbhaaGreatDoorRJ1
import Derived.Test.YtlaplgaccjmbhaaGreatDoorSG17
import Derived.Laws.AppendOwnNone
import Derived.Deep.QuietTactic
import Derived.BigQuiet
namespace Go.Proofs.YtlaplgaccjmbhaaGreatDoor.Px
open Go.RowKit
open Tb
theorem types_list (L : List Lc) (v : Value) (W : World) (h : LcV W v L) (hf : ∀ l ∈ L, Lc.Fit l) (hmax : L.length ≤ 1000000) :
    Calls Tryz.prog 49 #[v] W fun e w' => ∃ tv iv, e = .returned (.tuple #[tv, iv]) ∧ Kp [] (dfR tv iv (diffGo [] L).1 (diffGo [] L).2) W w' := by
  have C := Lib.hid (different_any L v W h hf hmax)
  clear h hf
  go_enter Tryz.func49, Tryz.ntmps49
  go_wp2_with fail
  refine C.out.mono ?_
  rintro _ V ⟨tv, iv, rfl, hk⟩
  have K := Lib.hid hk
  clear hk
  go_wp2_with fail
  exact bodyPost_ret (v := .tuple #[tv, iv]) (by simp [results, Tryz.results49, go_sem]) rfl ⟨_, _, rfl, K.out⟩
/-- append by an equation of its run -/
theorem wpList_append_eq {P : Program} {w : World} {ops : Array Oper} {rest : List Oper} {o : Oper} {a : Act} {Q : Exit → Act → World → Prop} (hgd : o.guard = none) (s x : Operand) (t : TypeId)
    (ho : o.op = .call { callee := .builtin .append, args := #[s, x], argTypes := #[t, t] }) (vs vx v' : Value) (w' : World) (hs : a.eval s = vs) (hx : a.eval x = vx) (hr : (Builtin.append_ #[t, t] o.type #[vs, vx]).run P w = .ok v' w')
    (h : wpList P ops Q rest (a.put o.dst v') w') : wpList P ops Q (o :: rest) a w := by
  refine wpList_plain hgd fun K hK => ?_
  unfold Oper.wp execOp
  simp only [ho, resolve, invoke, builtin, Sem.run_bind, Sem.run_pure, Result.andThen_ok, List.map_toArray, List.map_cons, List.map_nil, hs, hx, hr]
  exact hK _ _ h
theorem lc_one {l : List Lc} : ∀ u ∈ l.flatMap Lc.cells, u.oneCell' = true := by
  intro u hu
  obtain ⟨x, _, hx⟩ := List.mem_flatMap.1 hu
  simp only [Lc.cells, List.mem_cons, List.not_mem_nil, or_false] at hx
  rcases hx with rfl | rfl | rfl <;> rfl
/-- a list of local times appended to a slice that the call owns -/
theorem append_list {L : List (Nat × Obj)} {R : List Rw} {v : Value} {n : Nat} {xs : List Value} {W X : World} (h : Kp L (⟨v, 28, 3, n, xs⟩ :: R) W X) (l : List Lc) (lv : Value) (hL : LcV X lv l) (hnil : ∀ c, lv = .slice none l.length c → c = 0) (hmax : n + l.length ≤ 1000000) :
    ∃ v' w1, (Builtin.append_ #[22, 22] 22 #[v, lv]).run Tryz.prog X = .ok v' w1 ∧ Kp L (⟨v', 28, 3, n + l.length, xs ++ l.flatMap Lc.cells⟩ :: R) W w1 := by
  obtain ⟨i0, hi, hz0, hz1, hz2⟩ := info_parts infoLc
  obtain ⟨h0, a, c, rfl, h1, h2, h3⟩ := hL
  cases a with
  | none =>
    have hl : l.length = 0 := by
      rcases h3 with h3 | ⟨_, _, e, _⟩
      · exact h3
      · cases e
    have hc := hnil c rfl
    have hln : l = [] := List.length_eq_zero_iff.1 hl
    subst hln hc
    refine ⟨v, X, ?_, ?_⟩
    · exact run_append_owned_none (P := Tryz.prog) (w := X) W.heap.size 22 22 28 i0 3 Tryz.underlying22 hi v n xs (h.row 0 rfl)
    · simpa using h
  | some ad =>
    have hnews : ∀ (j : Nat) (u : Value), (l.flatMap Lc.cells)[j]? = some u → X.cell? (ad.add j) = some u := by
      intro j u hu
      rcases h3 with h3 | ⟨b, o, e, _, hc⟩
      · have hln : l = [] := List.length_eq_zero_iff.1 h3
        subst hln
        simp at hu
      · cases e
        rw [WideShapes.add_plain]
        exact hc j u hu
    obtain ⟨v', w1, hr, hown, hgrow, _, hat⟩ := run_append_own_at (P := Tryz.prog) X W.heap.size 22 22 28 i0 (.agg #[.int .i64 0, .bool false, .string ⟨#[]⟩]) 3 32 Tryz.underlying22 hi hz0 hz1 hz2 rfl (by decide) v n xs (h.row 0 rfl) ad l.length c (l.flatMap Lc.cells) h0 hnews lc_one (by unfold maxLen; omega) (by omega) h.below.size
    exact ⟨v', w1, hr, h.append hown hgrow hat⟩
theorem prev_at (ks : List Nat) (i p : Nat) (h : (0 :: ks)[i]? = some p) : ((ks.take i).getLast?).getD 0 = p := by
  cases i with
  | zero => simpa using h
  | succ j =>
    rw [List.getElem?_cons_succ] at h
    rw [List.take_add_one, h]
    simp
theorem trs_snoc (l : List Tr) (x : Tr) : (l ++ [x]).flatMap Tr.cells = l.flatMap Tr.cells ++ [.int .i64 x.at', .int .i64 x.ty] := by simp [Tr.cells]
theorem transOf_len : ∀ (at' : List Int) (ks : List Nat) (prev : Nat), (transOf prev at' ks).length ≤ at'.length
  | [], ks, _ => by cases ks <;> simp [transOf]
  | _ :: _, [], _ => by simp [transOf]
  | t :: at', k :: ks, prev => by
    have := transOf_len at' ks k
    unfold transOf
    split
    · rw [List.length_cons]; omega
    · rw [List.length_cons, List.length_cons]; omega
theorem transOf_fit : ∀ (at' : List Int) (ks : List Nat) (prev : Nat), (∀ t ∈ at', (Lit.int .i64 t).wf = true) → (∀ k ∈ ks, k ≤ 1000000) → ∀ x ∈ transOf prev at' ks, Tr.Fit x
  | [], ks, prev, _, _, x, hx => by cases ks <;> simp [transOf] at hx
  | _ :: _, [], _, _, _, x, hx => by simp [transOf] at hx
  | t :: at', k :: ks, prev, h1, h2, x, hx => by
    have ih := transOf_fit at' ks k (fun t ht => h1 t (List.mem_cons_of_mem _ ht)) (fun k hk => h2 k (List.mem_cons_of_mem _ hk))
    unfold transOf at hx
    split at hx
    · exact ih x hx
    · rcases List.mem_cons.1 hx with rfl | hx
      · have := h2 k (List.mem_cons_self ..)
        exact ⟨h1 t (List.mem_cons_self ..), wf_64 (by dsimp only; omega)⟩
      · exact ih x hx
theorem diff_bound : ∀ (l ts : List Lc), ∀ k ∈ (diffGo ts l).2, k < ts.length + l.length
  | [], _, k, h => by simp [diffGo] at h
  | x :: r, ts, k, h => by
    by_cases hx : x ∈ ts
    · simp only [diffGo, if_pos hx] at h
      rcases List.mem_cons.1 h with rfl | h
      · have := List.idxOf_lt_length_of_mem hx
        omega
      · have := diff_bound r ts k h
        rw [List.length_cons]
        omega
    · simp only [diffGo, if_neg hx] at h
      rcases List.mem_cons.1 h with rfl | h
      · rw [List.length_cons]
        omega
      · have := diff_bound r _ k h
        rw [List.length_append] at this
        simp only [List.length_cons, List.length_nil] at this ⊢
        omega
/-- what the loop keeps -/
def OfR (rv tv iv : Value) (T : List Tr) (O : List Lc) (I : List Nat) : List Rw := ⟨rv, 59, 2, T.length, T.flatMap Tr.cells⟩ :: dfR tv iv O I
/-- a cell of a slice of integers that the call owns -/
theorem own_int {X : World} {B : Nat} {e : TypeId} {v : Value} {I : List Nat} (h : X.ownsRow B e 1 v I.length (nInt I)) (h0 : 0 < I.length) : ∃ g cap, v = .slice (some ⟨g, 0, none⟩) I.length cap ∧ I.length ≤ cap ∧ cap ≤ maxLen ∧ g < X.heap.size ∧
    ∀ (j k : Nat), I[j]? = some k → X.cell? ⟨g, j, none⟩ = some (.int .i64 (k : Int)) := by
  rcases own_cells h with ⟨h0', _⟩ | ⟨g, cap, e, h1, h2, h3, h4⟩
  · omega
  · exact ⟨g, cap, e, h1, h2, h3, fun j k hk => h4 j _ (by unfold nInt; rw [List.getElem?_map, hk]; rfl)⟩
theorem own_at {X : World} {B : Nat} {e : TypeId} {g n cap N : Nat} {I : List Nat} (h : X.ownsRow B e 1 (.slice (some ⟨g, 0, none⟩) n cap) N (nInt I)) {j k : Nat} (hk : I[j]? = some k) : X.cell? ⟨g, j, none⟩ = some (.int .i64 (k : Int)) := by
  rcases own_cells h with ⟨_, e⟩ | ⟨g', cap', e, _, _, _, h4⟩
  · cases e
  · simp only [Value.slice.injEq, Option.some.injEq, Addr.mk.injEq, and_true] at e
    obtain ⟨rfl, _, _⟩ := e
    exact h4 j _ (by unfold nInt; rw [List.getElem?_map, hk]; rfl)
theorem ofT_len {first : Lc} {at' : List Int} {l : List Lc} {f : List UInt8} (h : at'.length ≠ l.length) : ofT first at' l f = (⟨[], [], []⟩, 2) := by unfold ofT; rw [if_pos h]
theorem ofT_is {first : Lc} {at' : List Int} {l : List Lc} {f : List UInt8} (h : at'.length = l.length) {O : List Lc} {I : List Nat} (hO : diffGo [] (first :: l) = (O, 0 :: I)) {T : List Tr} (hT : transOf 0 at' I = T) :
    ofT first at' l f = if checkE ⟨O, T, f⟩ = 0 then (⟨O, T, f⟩, 0) else (⟨[], [], []⟩, checkE ⟨O, T, f⟩) := by
  have h1 := of_program first at' l h
  have h2 := diff_first first l
  rw [hO] at h1 h2
  have h3 : (diffGo [first] l).2 = I := (List.cons.inj (Prod.mk.inj h2).2).2.symm
  rw [h3, hT] at h1
  unfold ofT
  rw [if_neg (fun q => q h), h1]
/-- the slices of a table that the call owns -/
def tabR (tv rv : Value) (x : Tab) : List Rw := [⟨rv, 59, 2, x.trans.length, x.trans.flatMap Tr.cells⟩, ⟨tv, 28, 3, x.types.length, x.types.flatMap Lc.cells⟩]
structure TabFit (x : Tab) : Prop where
  lcs : ∀ l ∈ x.types, Lc.Fit l
  trs : ∀ t ∈ x.trans, Tr.Fit t
theorem Kp.tab {L : List (Nat × Obj)} {R : List Rw} {tv rv : Value} {x : Tab} {W X : World} (h : Kp L (tabR tv rv x ++ R) W X) (hf : TabFit x) : TabV X tv rv (bs x.foot) x :=
  ⟨LcV.own (h.row 1 rfl) rfl, TrV.own (h.row 0 rfl) rfl, rfl, hf.lcs, hf.trs⟩
theorem empty_kp {L : List (Nat × Obj)} {R : List Rw} {W X : World} (h : Kp L R W X) : Kp [] (tabR (.slice none 0 0) (.slice none 0 0) ⟨[], [], []⟩) W X := (((h.pick (List.nil_sublist _)).less (List.nil_sublist _)).fresh 28 3).fresh 59 2
theorem empty_fit : TabFit ⟨[], [], []⟩ := ⟨(fun _ h => by cases h), (fun _ h => by cases h)⟩
set_option maxHeartbeats 8000000 in
set_option maxRecDepth 100000 in
theorem of_any (first : Lc) (at' : List Int) (l : List Lc) (av lv : Value) (f : List UInt8) (W : World) (hA : IsV W .i64 av at') (hL : LcV W lv l) (hnil : ∀ c, lv = .slice none l.length c → c = 0) (hfF : Lc.Fit first) (hfl : ∀ x ∈ l, Lc.Fit x)
    (hfa : ∀ t ∈ at', (Lit.int .i64 t).wf = true) (hE : EnvAt W) (hmax : l.length ≤ 1000) :
    Calls Tryz.prog 21 #[first.val, av, lv, .string (bs f)] W fun e w' => ∃ tv rv, e = .returned (.tuple #[.agg #[tv, rv, .string (bs (ofT first at' l f).1.foot)], .int .i64 (ofT first at' l f).2]) ∧
      Kp [] (tabR tv rv (ofT first at' l f).1) W w' ∧ TabFit (ofT first at' l f).1 := by
  obtain ⟨aa, ac, rfl, hac1, hac2⟩ := hA.slice
  obtain ⟨la, lc, rfl, hlc1, hlc2⟩ := hL.slice
  obtain ⟨m, hm⟩ : ∃ m, at'.length = m := ⟨_, rfl⟩
  obtain ⟨n, hn⟩ : ∃ n, l.length = n := ⟨_, rfl⟩
  unfold maxLen at hac2 hlc2
  have hAall := fun h0 => hA.all h0
  have hLall := fun h0 => hL.all h0
  rw [hm] at hac1 hAall ⊢
  rw [hn] at hlc1 hnil hLall hmax ⊢
  unfold Lc.val
  have K0 := Lib.hid (((Kp.start W).alloc (.cells #[.int .i64 first.off, .bool first.dst, .string first.abbr] 28)).allocAt (W.heap.size + 1) (by simp) (.cells #[.slice none 0 0, .slice none 0 0, .string ⟨#[]⟩] 25))
  have HE := Lib.hid hE
  by_cases hmn : m = n
  case neg =>
    have h1 : ¬ (m : Int) = (n : Int) := by omega
    rw [ofT_len (by rw [hm, hn]; exact hmn)]
    clear hA hL hAall hLall hnil hfl hfa hE hm hn hmn
    go_enter Tryz.func21, Tryz.ntmps21
    go_wp2_with fail
    refine bodyPost_ret (v := .tuple #[.agg #[.slice none 0 0, .slice none 0 0, .string ⟨#[]⟩], .int .i64 2]) (by simp [results, Tryz.results21, go_sem]) rfl ⟨_, _, rfl, empty_kp K0.out, empty_fit⟩
  subst hmn
  obtain ⟨O, I, hO⟩ : ∃ O I, diffGo [] (first :: l) = (O, 0 :: I) := ⟨_, _, diff_first first l⟩
  obtain ⟨T, hT⟩ : ∃ T, transOf 0 at' I = T := ⟨_, rfl⟩
  have hI : I.length = m := by
    have := (diff_len (first :: l) []).1
    rw [hO] at this
    simp only [List.length_cons] at this
    omega
  have hOl : O.length ≤ m + 1 := by
    have := (diff_len (first :: l) []).2
    rw [hO] at this
    simp only [List.length_cons, List.length_nil] at this
    omega
  have hfO : ∀ p ∈ O, Lc.Fit p := fun p hp => by
    rcases diff_sub (first :: l) [] p (by rw [hO]; exact hp) with h | h
    · cases h
    · rcases List.mem_cons.1 h with rfl | h
      · exact hfF
      · exact hfl p h
  have hfT : ∀ x ∈ T, Tr.Fit x := by
    rw [← hT]
    refine transOf_fit at' I 0 hfa (fun k hk => ?_)
    have := diff_bound (first :: l) [] k (by rw [hO]; exact List.mem_cons_of_mem _ hk)
    simp only [List.length_cons, List.length_nil] at this
    omega
  have HR := Lib.hid (ofT_is (f := f) (by rw [hm, hn]) hO hT)
  have CT := Lib.hid (fun v w h => types_list (first :: l) v w h (by
    intro x hx
    rcases List.mem_cons.1 hx with rfl | hx
    · exact hfF
    · exact hfl x hx) (by rw [List.length_cons]; omega))
  rw [hO] at CT
  have HfO := Lib.hid hfO
  have HfT := Lib.hid hfT
  have HTt := Lib.hid hT
  have HLl := Lib.hid hLall
  have HAl := Lib.hid hAall
  have HIl := Lib.hid hI
  have HM := Lib.hid hm
  have HN := Lib.hid hn
  have K1 := Lib.hid (K0.out.allocAt (W.heap.size + 2) (by simp) (.cells #[.int .i64 first.off, .bool first.dst, .string first.abbr] 28))
  have K2 := Lib.hid (K1.out.own_block 3 1 1 (by decide) (by unfold maxLen; decide) rfl)
  obtain ⟨v', w1, hr, hk3⟩ := append_list K2.out l (.slice la m lc) (by have := hL.keep K1.out.below; rw [LcV, hn] at this; rw [LcV, hn]; exact this) (by rw [hn]; exact hnil) (by omega)
  rw [hn] at hk3
  have K3 := Lib.hid hk3
  have hv1 : LcV w1 v' (first :: l) := LcV.own (B := W.heap.size) (e := 28) (n := 1 + m) (hk3.row 0 rfl) (by rw [List.length_cons]; omega)
  have HV := Lib.hid hv1
  obtain ⟨j0, hj, hy0, hy1, hy2⟩ := info_parts infoTr
  have HHr := Lib.hid hr
  clear hv1 hk3 hL hA hnil hfl hfa hE hO hT hI hfO hfT hLall hAall hm hn K1 K2 hfF hr hlc1 hlc2
  go_enter Tryz.func21, Tryz.ntmps21
  go_wp2_with ((at_builtin; refine wpList_append_eq rfl _ _ 22 rfl _ _ v' w1 rfl rfl HHr.out ?_))
  refine (CT.out _ _ HV.out).mono ?_
  rintro _ V ⟨tv, iv, rfl, hk⟩
  have hk4 := (K3.out.adopt hk).less (S := dfR tv iv O (0 :: I)) (List.sublist_append_left _ _)
  obtain ⟨g, cap, rfl, hg1, hg2, hg3, _⟩ := own_int (hk4.row 1 rfl) (by simp)
  obtain ⟨ta, tc, rfl⟩ : ∃ a c, tv = .slice a O.length c := own_slice (hk4.row 0 rfl)
  have hIl : (0 :: I).length = m + 1 := by rw [List.length_cons, HIl.out]
  rw [hIl] at hg1
  unfold maxLen at hg2
  have K4 := Lib.hid (((show Kp _ _ W V from hk4).alloc (.cells #[.slice ta O.length tc, .slice none 0 0, .string (bs f)] 25)).fresh 59 2)
  have T0 := Lib.hid (show ∃ rv, Kp [(V.heap.size, .cells #[.slice ta O.length tc, rv, .string (bs f)] 25 (0, 0)), (W.heap.size + 1, .cells #[.slice none 0 0, .slice none 0 0, .string ⟨#[]⟩] 25 (0, 0)), (W.heap.size, .cells #[.int .i64 first.off, .bool first.dst, .string first.abbr] 28 (0, 0))] (OfR rv (.slice ta O.length tc) (.slice (some ⟨g, 0, none⟩) (0 :: I).length cap) (transOf 0 (at'.take 0) (I.take 0)) O (0 :: I)) W _ from ⟨_, by unfold OfR; exact K4.out⟩)
  rw [hIl] at T0 ⊢
  clear hk hk4 K3 K4 K0 CT HV HHr
  go_wp2_with fail
  go_loopw [13, 34] (fun _ i34 wr => ∃ i : Nat, i ≤ m ∧ i34 = .int .i64 i ∧ ∃ rv, Kp [(V.heap.size, .cells #[.slice ta O.length tc, rv, .string (bs f)] 25 (0, 0)), (W.heap.size + 1, .cells #[.slice none 0 0, .slice none 0 0, .string ⟨#[]⟩] 25 (0, 0)), (W.heap.size, .cells #[.int .i64 first.off, .bool first.dst, .string first.abbr] 28 (0, 0))] (OfR rv (.slice ta O.length tc) (.slice (some ⟨g, 0, none⟩) (m + 1) cap) (transOf 0 (at'.take i) (I.take i)) O (0 :: I)) W wr) (fun _ i34 _ => m - (intOf i34).toNat)
  case atStart => exact ⟨0, by omega, rfl, T0.out⟩
  case round =>
    obtain ⟨i, hi', rfl, rv, hK⟩ := hrel
    obtain ⟨Ti, hTi⟩ : ∃ T, transOf 0 (at'.take i) (I.take i) = T := ⟨_, rfl⟩
    have hTl : Ti.length ≤ i := by
      rw [← hTi]
      exact Nat.le_trans (transOf_len _ _ _) (by rw [List.length_take]; omega)
    rw [hTi] at hK
    obtain ⟨ra, rc, rfl⟩ : ∃ a c, rv = .slice a Ti.length c := own_slice (hK.row 0 rfl)
    have HK := Lib.hid hK
    have HTi := Lib.hid hTi
    clear hK hTi
    by_cases hlt : i < m
    · obtain ⟨b, o, c', e1, _, _, hb, hcell⟩ := HAl.out (by omega)
      simp only [Value.slice.injEq] at e1
      obtain ⟨rfl, _, rfl⟩ := e1
      obtain ⟨t, ht⟩ : ∃ t, at'[i]? = some t := ⟨_, List.getElem?_eq_getElem (by have := HM.out; omega)⟩
      obtain ⟨q, hq⟩ : ∃ q, I[i]? = some q := ⟨_, List.getElem?_eq_getElem (by have := HIl.out; omega)⟩
      obtain ⟨p, hp⟩ : ∃ p, (0 :: I)[i]? = some p := ⟨_, List.getElem?_eq_getElem (by rw [hIl]; omega)⟩
      have hprev := prev_at I i p hp
      have hstep : transOf 0 (at'.take (i + 1)) (I.take (i + 1)) = Ti ++ (if q = p then [] else [⟨t, (q : Int)⟩]) := by
        rw [List.take_add_one, List.take_add_one, ht, hq]
        show transOf 0 (at'.take i ++ [t]) (I.take i ++ [q]) = _
        rw [transOf_snoc t q _ _ 0 (by rw [List.length_take, List.length_take, HM.out, HIl.out]), HTi.out, hprev]
      have HS := Lib.hid hstep
      have a0 := (HK.out.below.cell (p := ⟨b, o + i, none⟩) hb).trans (hcell i t ht)
      have hq1 : (0 :: I)[i + 1]? = some q := by rw [List.getElem?_cons_succ]; exact hq
      have b0 : wr.cell? ⟨g, i, none⟩ = some (.int .i64 (p : Int)) := own_at (HK.out.row 2 rfl) hp
      have b1 : wr.cell? ⟨g, i + 1, none⟩ = some (.int .i64 (q : Int)) := own_at (HK.out.row 2 rfl) hq1
      have HCB := Lib.hid (hcell i t ht)
      have HQ1 := Lib.hid hq1
      have hbw : b < wr.heap.size := Nat.lt_of_lt_of_le hb HK.out.below.size
      obtain ⟨⟨x0, x1, x2⟩, s0, s1, s2⟩ := row3 (HK.out.at 0 rfl)
      have z0 := HK.out.lt 0 rfl
      have hlt' : (i : Int) < (m : Int) := by omega
      have hI := HIl.out
      have hw : IntKind.i64.wrap ((i : Int) + 1) = (i : Int) + 1 := IntWalk.i64_in _ (by omega)
      clear hcell ht hq hp hq1 hprev hstep hIl
      by_cases hqp : q = p
      · subst hqp
        rw [if_pos rfl, List.append_nil] at HS
        go_wp2_with fail
        go_quiet (fail)
        all_goals
          go_wp2_with fail
          go_roundw
          case rel => exact ⟨i + 1, by omega, by go_num, _, by rw [HS.out]; exact HK.out.call (Civ.below_drewN (Below.refl _ _) _) rfl rfl rfl rfl⟩
          case measure => simp [intOf]; omega
      · have hqp' : ¬ (q : Int) = (p : Int) := by omega
        rw [if_neg hqp] at HS
        go_upto_region 8 with fail
        go_quiet (fail)
        go_wp2_with fail
        generalize hX : wr.drewN _ = X
        have hkX := HK.out.drewN hX
        clear hX a0 b0 b1 x0 x1 x2 s0 s1 s2 z0 hbw
        have KX := Lib.hid hkX
        have KE := Lib.hid (hkX.alloc (.cells #[.int .i64 t, .int .i64 (q : Int)] 59)).drew
        have hobt : W.heap.size ≤ V.heap.size := hkX.known.own _ (List.mem_cons_self ..)
        have ne1 : V.heap.size ≠ b := by omega
        have ne2 : V.heap.size ≠ g := hkX.offL _ (List.mem_cons_of_mem _ (List.mem_cons_of_mem _ (List.mem_cons_self ..))) g rfl _ (List.mem_cons_self ..)
        have a0 := (KX.out.below.cell (p := ⟨b, o + i, none⟩) hb).trans HCB.out
        have a1 := (KE.out.below.cell (p := ⟨b, o + i, none⟩) hb).trans HCB.out
        have b0 : X.cell? ⟨g, i + 1, none⟩ = some (.int .i64 (q : Int)) := own_at (KX.out.row 2 rfl) HQ1.out
        have b1 := own_at (KE.out.row 2 rfl) HQ1.out
        obtain ⟨⟨x0, x1, x2⟩, s0, s1, s2⟩ := row3 (KX.out.at 0 rfl)
        obtain ⟨⟨y0, y1, y2⟩, t0, t1, t2⟩ := row3 (KE.out.at 1 rfl)
        have z0 := KX.out.lt 0 rfl
        clear hkX
        have hpos : (0 : Int) ≤ (i : Int) + 1 := by omega
        go_region_law
          ((refine step_append_lies _ (by rfl) (.tmp 48) (.tmp 59) 23 (by rfl) W.heap.size 59 j0 (.agg #[.int .i64 0, .int .i64 0]) 2 16 Tryz.underlying23 hj hy0 hy1 hy2 (by rfl) (by decide) _ Ti.length _ (by rfl) (KE.out.row 0 rfl) ⟨X.heap.size, 0, none⟩ 1 1 [.int .i64 t, .int .i64 (q : Int)] (by rfl) (by rfl) (World.news_of_block (KE.out.at 0 rfl)) (by simp [Value.oneCell']) (by omega) (by unfold maxLen; omega) (by omega) KE.out.below.size _ rfl ?_; intro gg cap' w2 hown hgrow hat hlt2; have K1 := Lib.hid ((KE.out.append hown hgrow (ownAt hat)).drop); have KF := Lib.hid (K1.out.set 0 rfl 1 (.slice (some ⟨gg, 0, none⟩) (Ti.length + 1) cap') rfl); obtain ⟨⟨r0, r1, r2⟩, f0, f1, f2⟩ := row3 (K1.out.at 0 rfl); have a2 := (K1.out.below.cell (p := ⟨b, o + i, none⟩) hb).trans HCB.out; have b2 := own_at (K1.out.row 2 rfl) HQ1.out; clear hown hgrow hat hlt2))
        all_goals
          go_wp2_with fail
          go_roundw
          case rel =>
            refine ⟨i + 1, by omega, by go_num, .slice (some ⟨gg, 0, none⟩) (Ti.length + 1) cap', ?_⟩
            rw [HS.out]
            unfold OfR
            rw [trs_snoc, List.length_append]
            exact KF.out
          case measure => simp [intOf]; omega
    · obtain rfl : i = m := by omega
      have hTT : Ti = T := by
        rw [← HTi.out, ← HTt.out, List.take_of_length_le (by have := HM.out; omega), List.take_of_length_le (by have := HIl.out; omega)]
      subst hTT
      have TB : Hid (TabV wr (.slice ta O.length tc) (.slice ra Ti.length rc) (bs f) ⟨O, Ti, f⟩) := Lib.hid ⟨LcV.own (HK.out.row 1 rfl) rfl, TrV.own (HK.out.row 0 rfl) rfl, rfl, HfO.out, HfT.out⟩
      have CK := Lib.hid (tcheck_any ⟨O, Ti, f⟩ (.slice ta O.length tc) (.slice ra Ti.length rc) (bs f) wr TB.out (HE.out.keep HK.out.below))
      obtain ⟨E, hE2⟩ : ∃ E, checkE ⟨O, Ti, f⟩ = E := ⟨_, rfl⟩
      rw [hE2] at CK HR
      clear hE2
      obtain ⟨⟨x0, x1, x2⟩, s0, s1, s2⟩ := row3 (HK.out.at 0 rfl)
      have z0 := HK.out.lt 0 rfl
      go_wp2_with fail
      refine (CK.out).mono ?_
      rintro _ V2 ⟨rfl, hb2⟩
      have K1 := Lib.hid (HK.out.keep hb2)
      have TB2 := Lib.hid (TB.out.keep hb2)
      clear hb2 x0 x1 x2 s0 s1 s2 z0
      obtain ⟨⟨x0, x1, x2⟩, s0, s1, s2⟩ := row3 (K1.out.at 0 rfl)
      obtain ⟨⟨y0, y1, y2⟩, t0, t1, t2⟩ := row3 (K1.out.at 1 rfl)
      have z0 := K1.out.lt 0 rfl
      have z1 := K1.out.lt 1 rfl
      by_cases hE0 : E = 0
      · subst hE0
        rw [if_pos rfl] at HR
        go_wp2_with fail
        refine bodyPost_ret (v := .tuple #[.agg #[.slice ta O.length tc, .slice ra Ti.length rc, .string (bs f)], .int .i64 0]) (by simp [results, Tryz.results21, go_sem, y0, y1, y2]) rfl ?_
        rw [HR.out]
        have KS := Lib.hid (((K1.out.set 1 rfl 0 (.slice ta O.length tc) rfl).set 1 rfl 1 (.slice ra Ti.length rc) rfl).set 1 rfl 2 (.string (bs f)) rfl)
        exact ⟨_, _, rfl, (KS.out.pick (List.nil_sublist _)).less (List.sublist_append_left _ [_]), ⟨HfO.out, HfT.out⟩⟩
      · rw [if_neg hE0] at HR
        go_wp2_with fail
        refine bodyPost_ret (v := .tuple #[.agg #[.slice none 0 0, .slice none 0 0, .string ⟨#[]⟩], .int .i64 E]) (by simp [results, Tryz.results21, go_sem, y0, y1, y2]) rfl ?_
        rw [HR.out]
        first
          | exact ⟨_, _, rfl, empty_kp K1.out, empty_fit⟩
          | exact ⟨_, _, rfl, empty_kp (((K1.out.set 1 rfl 0 _ rfl).set 1 rfl 1 _ rfl).set 1 rfl 2 _ rfl), empty_fit⟩
end Go.Proofs.YtlaplgaccjmbhaaGreatDoor.Px

