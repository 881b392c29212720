/- The method Made of a draft of chapter 45: its table, which is right. The law LookupIndexes returns true for every table by numbers, instant and number of seconds: the walk. -/
import Derived.Test.YtlaplgaccjmbhaaGreatDoorRJ5
import Derived.Test.YtlaplgaccjmbhaaGreatDoorRJ2
import Derived.Test.YtlaplgaccjmbhaaGreatDoorRJP
namespace Go.Proofs.YtlaplgaccjmbhaaGreatDoor.Px
open Go.RowKit
open Civ Tb
theorem zip_fst_snd : ∀ g : List (Int × Lc), (g.map Prod.fst).zip (g.map Prod.snd) = g
  | [] => rfl
  | x :: r => by rw [List.map_cons, List.map_cons, List.zip_cons_cons, zip_fst_snd r]
/-- the table of a draft is what table.Of makes -/
theorem ofT_made (d : D45) (h : d.In) : ofT d.fst (d.chg.map Prod.fst) (d.chg.map Prod.snd) (printL d.pos) = (d.made, 0) := by
  unfold ofT
  rw [if_neg (by simp), zip_fst_snd]
  have hr := made45_right d h
  unfold D45.made at hr ⊢
  rw [if_pos hr]
theorem kind_fit {k : Nat} (h : k < 3) : Lc.Fit (kindL k) := by
  rcases (show k = 0 ∨ k = 1 ∨ k = 2 by omega) with rfl | rfl | rfl
  · exact ⟨by kernel_rfl, of_decide_eq_true (by kernel_rfl)⟩
  · exact ⟨by kernel_rfl, of_decide_eq_true (by kernel_rfl)⟩
  · exact ⟨by kernel_rfl, of_decide_eq_true (by kernel_rfl)⟩
theorem cut_fit {p : Pos} (h : Cut p) {t : Int} (t0 : -36028797018963968 ≤ t) (t1 : t ≤ 36028797018963968) : Lc.Fit (atL p t).1 := by
  obtain ⟨_, h2, _, h4⟩ := atL_cut h t0 t1
  refine ⟨?_, by unfold maxLen; omega⟩
  unfold lcE at h2
  by_cases h3 : (atL p t).1.off < -54000 ∨ 54000 < (atL p t).1.off
  · rw [if_pos h3] at h2; cases h2
  · exact wf_64 (by omega)
theorem fst_fit (d : D45) (h : d.In) : Lc.Fit d.fst := by
  unfold D45.fst
  split
  · exact cut_fit (cut_is d.foot h.fo) (by omega) (by omega)
  · exact ⟨by kernel_rfl, of_decide_eq_true (by kernel_rfl)⟩
theorem chg_fit (d : D45) (h : d.In) : (∀ l ∈ d.chg.map Prod.snd, Lc.Fit l) ∧ ∀ t ∈ d.chg.map Prod.fst, (Lit.int .i64 t).wf = true := by
  obtain ⟨b0, b1⟩ := last_bd d h
  constructor
  · intro l hl
    obtain ⟨x, hx, rfl⟩ := List.mem_map.1 hl
    unfold D45.chg at hx
    split at hx
    · cases hx
    · rcases List.mem_append.1 hx with hx | hx
      · obtain ⟨k, hk, e⟩ := all_kind d x (List.dropLast_subset _ hx)
        rw [e]
        exact kind_fit hk
      · rw [List.mem_singleton] at hx
        rw [hx]
        exact cut_fit (cut_is d.foot h.fo) b0 b1
  · intro t ht
    obtain ⟨x, hx, rfl⟩ := List.mem_map.1 ht
    have := (chg_incr d h).mem x hx
    exact wf_64 (by omega)
theorem chg_len (d : D45) : d.chg.length ≤ 30 := by
  have h1 : d.all.length ≤ 30 := by unfold D45.all; rw [goG_len, List.length_take]; omega
  unfold D45.chg
  split
  · simp
  · rw [List.length_append, List.length_dropLast]
    simp
    omega
theorem chR_at {L : List (Nat × Obj)} {W X : World} {av lv : Value} {g : List (Int × Lc)} (h : Kp L (chR av lv g) W X) : IsV X .i64 av (g.map Prod.fst) ∧ LcV X lv (g.map Prod.snd) ∧ ∀ c, lv = .slice none (g.map Prod.snd).length c → c = 0 := by
  refine ⟨IsV.own (B := W.heap.size) (e := 2) (n := g.length) (by rw [List.map_map]; exact h.row 0 rfl) (by simp), LcV.own (h.row 1 rfl) (by simp), fun c hc => ?_⟩
  have hr : X.ownsRow W.heap.size 28 3 lv g.length ((g.map Prod.snd).flatMap Lc.cells) := h.row 1 rfl
  rcases own_cells hr with ⟨_, e⟩ | ⟨g', cap', e, _⟩
  · rw [e] at hc
    simp only [Value.slice.injEq] at hc
    exact hc.2.2.symm
  · rw [e] at hc
    simp at hc
set_option maxHeartbeats 4000000 in
set_option maxRecDepth 100000 in
theorem made45_any (n0 n1 o0 o1 k0 k1 d0 d1 s0 s1 : Int) (q : Bool) (fi : Int) (G K : List Int) (gv kv : Value) (W : World) (h : D45V W gv kv ⟨⟨n0, n1, o0, o1, k0, k1, d0, d1, s0, s1, q⟩, fi, G, K⟩) (hin : D45.In ⟨⟨n0, n1, o0, o1, k0, k1, d0, d1, s0, s1, q⟩, fi, G, K⟩) (hE : EnvAt W) :
    Calls Tryz.prog 24 #[.agg #[.int .u8 n0, .int .u8 n1, .int .u8 o0, .int .u8 o1, .int .u8 k0, .int .u8 k1, .int .u8 d0, .int .u8 d1, .int .u8 s0, .int .u8 s1, .bool q, .int .i32 fi, gv, kv]] W fun e w' =>
      ∃ tv rv, e = .returned (.tuple #[.agg #[tv, rv, .string (bs (D45.made ⟨⟨n0, n1, o0, o1, k0, k1, d0, d1, s0, s1, q⟩, fi, G, K⟩).foot)], .bool true]) ∧
        Kp [] (tabR tv rv (D45.made ⟨⟨n0, n1, o0, o1, k0, k1, d0, d1, s0, s1, q⟩, fi, G, K⟩)) W w' ∧ TabFit (D45.made ⟨⟨n0, n1, o0, o1, k0, k1, d0, d1, s0, s1, q⟩, fi, G, K⟩) := by
  have CC := Lib.hid (fun w h hE => changes_any n0 n1 o0 o1 k0 k1 d0 d1 s0 s1 q fi G K gv kv w h hin hE)
  obtain ⟨D, hD⟩ : ∃ D, (⟨⟨n0, n1, o0, o1, k0, k1, d0, d1, s0, s1, q⟩, fi, G, K⟩ : D45) = D := ⟨_, rfl⟩
  rw [hD] at CC h hin ⊢
  obtain ⟨ga, gc, hgv, _, _⟩ := h.gaps.slice
  obtain ⟨ka, kc, hkv, _, _⟩ := h.kinds.slice
  obtain ⟨gn, hgn⟩ : ∃ n, D.gaps.length = n := ⟨_, rfl⟩
  obtain ⟨kn, hkn⟩ : ∃ n, D.kinds.length = n := ⟨_, rfl⟩
  rw [hgn] at hgv
  rw [hkn] at hkv
  subst hgv hkv
  obtain ⟨f1, f2⟩ := chg_fit D hin
  have hln := chg_len D
  have CO := Lib.hid (fun av lv w h1 h2 h3 hE => of_any D.fst (D.chg.map Prod.fst) (D.chg.map Prod.snd) av lv (printL D.pos) w h1 h2 h3 (fst_fit D hin) f1 f2 hE (by rw [List.length_map]; omega))
  rw [ofT_made D hin] at CO
  dsimp only at CO
  have hfo : D.made.foot = printL D.pos := rfl
  rw [hfo]
  rw [hfo] at CO
  obtain ⟨⟨fo, fd, fa⟩, hfst⟩ : ∃ l, D.fst = l := ⟨_, rfl⟩
  obtain ⟨S, hS⟩ : ∃ S, printL D.pos = S := ⟨_, rfl⟩
  obtain ⟨g, hg⟩ : ∃ g, D.chg = g := ⟨_, rfl⟩
  obtain ⟨T, hT⟩ : ∃ T, D.made = T := ⟨_, rfl⟩
  rw [hfst, hS, hg] at CC
  rw [hfst, hS, hg, hT] at CO
  rw [hS, hT]
  unfold Lc.val at CC CO
  dsimp only at CC CO
  have HH := Lib.hid h
  have HE := Lib.hid hE
  have K0 := Lib.hid (((Kp.start W).alloc (.cells #[.int .u8 n0, .int .u8 n1, .int .u8 o0, .int .u8 o1, .int .u8 k0, .int .u8 k1, .int .u8 d0, .int .u8 d1, .int .u8 s0, .int .u8 s1, .bool q, .int .i32 fi, .slice ga gn gc, .slice ka kn kc] 41)).allocAt (W.heap.size + 1) (by simp) (.cells #[.slice none 0 0, .slice none 0 0, .string ⟨#[]⟩] 25))
  clear h hE hin hD f1 f2 hln hfo hfst hS hg hT hgn hkn
  go_enter Tryz.func24, Tryz.ntmps24
  go_wp2_with fail
  refine (CC.out _ (HH.out.keep K0.out.below) (HE.out.keep K0.out.below)).mono ?_
  rintro _ V ⟨av, lv, rfl, hk⟩
  have hk1 := (K0.out.adopt hk)
  obtain ⟨aa, ac, rfl⟩ : ∃ a c, av = .slice a g.length c := own_slice (hk1.row 0 rfl)
  obtain ⟨la, lc, rfl⟩ : ∃ a c, lv = .slice a g.length c := own_slice (hk1.row 1 rfl)
  have K1 := Lib.hid (hk1.alloc (.cells #[.int .i64 fo, .bool fd, .string fa] 28))
  clear hk hk1
  obtain ⟨c1, c2, c3⟩ := chR_at K1.out
  go_wp2_with fail
  refine (CO.out _ _ _ c1 c2 c3 (HE.out.keep K1.out.below)).mono ?_
  rintro _ V2 ⟨tv, rv, rfl, hk, hf⟩
  have hk2 := K1.out.adopt hk
  obtain ⟨ta, tc, rfl⟩ : ∃ a c, tv = .slice a T.types.length c := own_slice (hk2.row 1 rfl)
  obtain ⟨ra, rc, rfl⟩ : ∃ a c, rv = .slice a T.trans.length c := own_slice (hk2.row 0 rfl)
  have K2 := Lib.hid hk2
  have HF := Lib.hid hf
  obtain ⟨tn, htn⟩ : ∃ n, T.types.length = n := ⟨_, rfl⟩
  obtain ⟨rn, hrn⟩ : ∃ n, T.trans.length = n := ⟨_, rfl⟩
  rw [htn, hrn] at K2 ⊢
  clear hk hk2 hf c1 c2 c3
  obtain ⟨⟨y0, y1, y2⟩, t0, t1, t2⟩ := row3 (K2.out.at 1 rfl)
  have z1 := K2.out.lt 1 rfl
  go_wp2_with fail
  have K4 := Lib.hid ((((K2.out.set 1 rfl 0 (.slice ta tn tc) rfl).set 1 rfl 1 (.slice ra rn rc) rfl).set 1 rfl 2 (.string (bs S)) rfl).alloc (.cells #[.slice ta tn tc, .slice ra rn rc, .string (bs S)] 25))
  obtain ⟨⟨u0, u1, u2⟩, _, _, _⟩ := row3 (K4.out.at 2 rfl)
  refine bodyPost_ret (v := .tuple #[.agg #[.slice ta tn tc, .slice ra rn rc, .string (bs S)], .bool true]) (by simp [results, Tryz.results24, go_sem, u0, u1, u2]) rfl ?_
  refine ⟨_, _, rfl, ?_, HF.out⟩
  exact (K4.out.pick (List.nil_sublist _)).less (List.sublist_append_left _ _)
end Go.Proofs.YtlaplgaccjmbhaaGreatDoor.Px
namespace Go.Proofs.YtlaplgaccjmbhaaGreatDoor.Tb
open Px
/-- how many transitions the table of some changes has -/
theorem ofGo_len : ∀ (c : List (Int × Lc)) (ts : List Lc) (xs : List Tr) (b : Lc), (ofGo ts xs b c).2.length ≤ xs.length + c.length
  | [], ts, xs, b => by simp [ofGo]
  | (t, l) :: r, ts, xs, b => by
    unfold ofGo
    rw [List.length_cons]
    split
    · have := ofGo_len r ts xs b
      omega
    · split
      · have := ofGo_len r ts (xs ++ [⟨t, ts.idxOf l⟩]) l
        rw [List.length_append, List.length_singleton] at this
        omega
      · have := ofGo_len r (ts ++ [l]) (xs ++ [⟨t, ts.length⟩]) l
        rw [List.length_append, List.length_singleton] at this
        omega
theorem look45_ok (d : D45) (h : d.In) {t : Int} (t0 : -36028797018963968 ≤ t) (t1 : t ≤ 36028797018963968) : (lookL d.made t).2 = 0 := by
  refine look_ok (made45_right d h) t0 t1 ?_
  have hb : (finG rfF d.made.foot).1 = d.pos := by
    show (finG rfF (printL d.pos)).1 = d.pos
    unfold D45.pos
    rw [(cut_is d.foot h.fo).back]
  rw [hb]
  exact (atL_cut (cut_is d.foot h.fo) t0 t1).1
end Go.Proofs.YtlaplgaccjmbhaaGreatDoor.Tb
namespace Go.Proofs.YtlaplgaccjmbhaaGreatDoor.Px
open Go.RowKit
open Civ Tb
theorem made45_len (d : D45) : d.made.trans.length ≤ 30 := by
  have h1 := ofGo_len d.chg [d.fst] [] d.fst
  have h2 := chg_len d
  have h3 : d.made.trans = (ofGo [d.fst] [] d.fst d.chg).2 := rfl
  rw [h3]
  simp only [List.length_nil] at h1
  omega
theorem tr_cell {X : World} {B g n cap N : Nat} {e : TypeId} {L : List Tr} (h : X.ownsRow B e 2 (.slice (some ⟨g, 0, none⟩) n cap) N (L.flatMap Tr.cells)) {i : Nat} {x : Tr} (hx : L[i]? = some x) :
    X.cell? ⟨g, i * 2, none⟩ = some (.int .i64 x.at') ∧ X.cell? ⟨g, i * 2 + 1, none⟩ = some (.int .i64 x.ty) := ⟨own_cell h (tr_at L hx).1, own_cell h (tr_at L hx).2⟩
theorem lc_cell {X : World} {B g n cap N : Nat} {e : TypeId} {L : List Lc} (h : X.ownsRow B e 3 (.slice (some ⟨g, 0, none⟩) n cap) N (L.flatMap Lc.cells)) {i : Nat} {x : Lc} (hx : L[i]? = some x) :
    X.cell? ⟨g, i * 3, none⟩ = some (.int .i64 x.off) ∧ X.cell? ⟨g, i * 3 + 1, none⟩ = some (.bool x.dst) ∧ X.cell? ⟨g, i * 3 + 2, none⟩ = some (.string x.abbr) := ⟨own_cell h (lc_at L hx).1, own_cell h (lc_at L hx).2.1, own_cell h (lc_at L hx).2.2⟩
/-- where an owned slice lies that is not empty -/
theorem own_some {X : World} {B sz n N c : Nat} {a : Option Addr} {e : TypeId} {xs : List Value} (h : X.ownsRow B e sz (.slice a n c) N xs) (h0 : 0 < N) : ∃ g, a = some ⟨g, 0, none⟩ ∧ n = N ∧ N ≤ c ∧ c ≤ maxLen ∧ g < X.heap.size := by
  rcases own_cells h with ⟨h1, _⟩ | ⟨g, cap, e1, e2, e3, e4, _⟩
  · omega
  · simp only [Value.slice.injEq] at e1
    obtain ⟨rfl, rfl, rfl⟩ := e1
    exact ⟨g, rfl, rfl, e2, e3, e4⟩
theorem d45val_is (n0 n1 o0 o1 k0 k1 d0 d1 s0 s1 : Int) (q : Bool) (fi : Int) (G K : List Int) (gv kv : Value) : d45val ⟨⟨n0, n1, o0, o1, k0, k1, d0, d1, s0, s1, q⟩, fi, G, K⟩ gv kv =
    .agg #[.int .u8 n0, .int .u8 n1, .int .u8 o0, .int .u8 o1, .int .u8 k0, .int .u8 k1, .int .u8 d0, .int .u8 d1, .int .u8 s0, .int .u8 s1, .bool q, .int .i32 fi, gv, kv] := rfl
/-- the transitions around an index -/
theorem around {x : Tab} (h : checkE x = 0) (t : Int) :
    (idxT x.trans t = 0 ∨ ∃ m c, idxT x.trans t = m + 1 ∧ x.trans[m]? = some c ∧ c.at' ≤ t) ∧ (idxT x.trans t = x.trans.length ∨ ∃ c, idxT x.trans t < x.trans.length ∧ x.trans[idxT x.trans t]? = some c ∧ t < c.at') := by
  have hp := (transGo_ok _ _ _ _ (check_zero h).2.1).inc
  have hle := idx_le x.trans t
  constructor
  · by_cases h0 : idxT x.trans t = 0
    · exact .inl h0
    · obtain ⟨c, hc⟩ : ∃ c, x.trans[idxT x.trans t - 1]? = some c := ⟨_, List.getElem?_eq_getElem (by omega)⟩
      exact .inr ⟨_, c, by omega, hc, (idx_first hp _ c hc).2 (by omega)⟩
  · by_cases h0 : idxT x.trans t = x.trans.length
    · exact .inl h0
    · obtain ⟨c, hc⟩ : ∃ c, x.trans[idxT x.trans t]? = some c := ⟨_, List.getElem?_eq_getElem (by omega)⟩
      refine .inr ⟨c, by omega, hc, ?_⟩
      have := idx_first (t := t) hp _ c hc
      omega
set_option maxHeartbeats 8000000 in
set_option maxRecDepth 100000 in
theorem indexes_cells (n0 n1 o0 o1 k0 k1 d0 d1 s0 s1 : Int) (q : Bool) (fi : Int) (G K : List Int) (gv kv : Value) (t later : Int) (W : World) (h : D45V W gv kv ⟨⟨n0, n1, o0, o1, k0, k1, d0, d1, s0, s1, q⟩, fi, G, K⟩) (hin : D45.In ⟨⟨n0, n1, o0, o1, k0, k1, d0, d1, s0, s1, q⟩, fi, G, K⟩)
    (l0 : 0 ≤ later) (l1 : later ≤ 4294967295) (hE : EnvAt W) :
    Calls Tryz.prog 5 #[.agg #[.int .u8 n0, .int .u8 n1, .int .u8 o0, .int .u8 o1, .int .u8 k0, .int .u8 k1, .int .u8 d0, .int .u8 d1, .int .u8 s0, .int .u8 s1, .bool q, .int .i32 fi, gv, kv], .int .i64 t, .int .u32 later] W fun e w' => e = .returned (.bool true) ∧ Below W.heap.size W w' := by
  have CM := Lib.hid (fun w h hE => made45_any n0 n1 o0 o1 k0 k1 d0 d1 s0 s1 q fi G K gv kv w h hin hE)
  have CW := Lib.hid (fun w hE => works45_any w hE)
  obtain ⟨D, hD⟩ : ∃ D, (⟨⟨n0, n1, o0, o1, k0, k1, d0, d1, s0, s1, q⟩, fi, G, K⟩ : D45) = D := ⟨_, rfl⟩
  rw [hD] at CM h hin
  obtain ⟨ga, gc, hgv, _, _⟩ := h.gaps.slice
  obtain ⟨ka, kc, hkv, _, _⟩ := h.kinds.slice
  obtain ⟨gn, hgn⟩ : ∃ n, D.gaps.length = n := ⟨_, rfl⟩
  obtain ⟨kn, hkn⟩ : ∃ n, D.kinds.length = n := ⟨_, rfl⟩
  rw [hgn] at hgv
  rw [hkn] at hkv
  subst hgv hkv
  obtain ⟨t', ht'⟩ : ∃ t', t.tmod 18014398509481984 = t' := ⟨_, rfl⟩
  have t0 : -18014398509481984 < t' ∧ t' < 18014398509481984 := by
    rw [← ht']
    exact ⟨Int.lt_tmod_of_pos _ (by decide), Int.tmod_lt_of_pos _ (by decide)⟩
  obtain ⟨t0, t1⟩ := t0
  have hr := made45_right D hin
  have a1 := (around hr t').1
  have a2 := (around hr t').2
  have hmn := idx_mono D.made.trans (t := t') (u := t' + later) (by omega)
  have hle := idx_le D.made.trans (t' + later)
  have hsame := look_same hr (t := t') (u := t' + later) (by omega) (by omega) (by omega) (by omega)
  have x1 : idxE D.made t' = (idxT D.made.trans t', 0) := idxE_ok hr (by omega)
  have x2 : idxE D.made (t' + later) = (idxT D.made.trans (t' + later), 0) := idxE_ok hr (by omega)
  have y1 := look45_ok D hin (t := t') (by omega) (by omega)
  have y2 := look45_ok D hin (t := t' + later) (by omega) (by omega)
  have hlen := made45_len D
  have HMid := Lib.hid (fun m hm => right_mid hr (m := m) hm)
  have HTr := Lib.hid (fun i c hc => look_trans hr (i := i) (c := c) hc)
  obtain ⟨T, hT⟩ : ∃ T, D.made = T := ⟨_, rfl⟩
  rw [hT] at CM a1 a2 hmn hle hsame x1 x2 y1 y2 hlen HMid HTr
  obtain ⟨m, hm⟩ : ∃ m, idxT T.trans t' = m := ⟨_, rfl⟩
  obtain ⟨n, hn⟩ : ∃ n, idxT T.trans (t' + later) = n := ⟨_, rfl⟩
  rw [hm] at a1 a2 hmn hsame x1
  rw [hn] at hmn hle hsame x2
  obtain ⟨⟨⟨lo, ld, la⟩, ee⟩, hA⟩ : ∃ A, lookL T t' = A := ⟨_, rfl⟩
  obtain ⟨⟨⟨lo', ld', la'⟩, ee'⟩, hB⟩ : ∃ A, lookL T (t' + later) = A := ⟨_, rfl⟩
  rw [hA] at hsame y1
  rw [hB] at hsame y2
  dsimp only at y1 y2
  subst y1 y2
  have CI := Lib.hid (fun tv rv w h hE => index_any' T tv rv (bs T.foot) t' w h hE (by omega))
  have CJ := Lib.hid (fun tv rv w h hE => index_any' T tv rv (bs T.foot) (t' + later) w h hE (by omega))
  have CA := Lib.hid (fun tv rv w h hE => look_any T tv rv (bs T.foot) t' w h hE (by omega))
  have CB := Lib.hid (fun tv rv w h hE => look_any T tv rv (bs T.foot) (t' + later) w h hE (by omega))
  have CL := Lib.hid (fun t tv rv w h hE => look_any T tv rv (bs T.foot) t w h hE (by omega))
  rw [x1] at CI
  rw [x2] at CJ
  rw [hA] at CA
  rw [hB] at CB
  unfold Lc.val at CA CB
  dsimp only at CI CJ CA CB
  obtain ⟨N, hN⟩ : ∃ N, T.trans.length = N := ⟨_, rfl⟩
  obtain ⟨M, hM⟩ : ∃ N, T.types.length = N := ⟨_, rfl⟩
  rw [hN] at a2 hle hsame hlen HMid
  have f0 : IntKind.i64.wrap (t' + later) = t' + later := IntWalk.i64_in _ (by omega)
  have HN := Lib.hid hN
  have HM := Lib.hid hM
  have HS := Lib.hid hsame
  have A1 := Lib.hid a1
  have A2 := Lib.hid a2
  have HH := Lib.hid h
  have HE := Lib.hid hE
  have K0 := Lib.hid ((Kp.start W).alloc (.cells #[.int .u8 n0, .int .u8 n1, .int .u8 o0, .int .u8 o1, .int .u8 k0, .int .u8 k1, .int .u8 d0, .int .u8 d1, .int .u8 s0, .int .u8 s1, .bool q, .int .i32 fi, .slice ga gn gc, .slice ka kn kc] 41))
  have p1 : ¬ (m : Int) < 0 := by omega
  have p2 : ¬ (n : Int) < (m : Int) := by omega
  have p3 : ¬ (N : Int) < (n : Int) := by omega
  clear h hE hin hD hr hT hgn hkn hm hn hA hB x1 x2 a1 a2 hsame hN hM
  go_enter Tryz.func5, Tryz.ntmps5
  go_wp2_with fail
  refine (CM.out _ (HH.out.keep K0.out.below) (HE.out.keep K0.out.below)).mono ?_
  rintro _ V ⟨tv, rv, rfl, hk, hf⟩
  have hk1 := K0.out.adopt hk
  obtain ⟨ta, tc, rfl⟩ : ∃ a c, tv = .slice a T.types.length c := own_slice (hk1.row 1 rfl)
  obtain ⟨ra, rc, rfl⟩ : ∃ a c, rv = .slice a T.trans.length c := own_slice (hk1.row 0 rfl)
  rw [HN.out, HM.out] at hk1 ⊢
  have K1 := Lib.hid (hk1.alloc (.cells #[.slice ta M tc, .slice ra N rc, .string (bs T.foot)] 25))
  have HF := Lib.hid hf
  clear hk hk1 hf
  go_wp2_with fail
  refine (CI.out _ _ _ (K1.out.tab HF.out) (HE.out.keep K1.out.below)).mono ?_
  rintro _ V2 ⟨rfl, hb⟩
  have K2 := Lib.hid (K1.out.keep hb)
  obtain ⟨⟨r0, r1, r2⟩, _, _, _⟩ := row3 (K2.out.at 0 rfl)
  clear hb
  go_wp2_with fail
  refine (CJ.out _ _ _ (K2.out.tab HF.out) (HE.out.keep K2.out.below)).mono ?_
  rintro _ V3 ⟨rfl, hb⟩
  have K3 := Lib.hid (K2.out.keep hb)
  clear hb r0 r1 r2
  obtain ⟨⟨r0, r1, r2⟩, _, _, _⟩ := row3 (K3.out.at 0 rfl)
  go_wp2_with fail
  refine (CA.out _ _ _ (K3.out.tab HF.out) (HE.out.keep K3.out.below)).mono ?_
  rintro _ V4 ⟨rfl, hb⟩
  have K4 := Lib.hid (K3.out.keep hb)
  have K5 := Lib.hid (K4.out.alloc (.cells #[.int .i64 lo, .bool ld, .string la] 28))
  clear hb r0 r1 r2
  obtain ⟨⟨r0, r1, r2⟩, _, _, _⟩ := row3 (K4.out.at 0 rfl)
  have z0 := K4.out.lt 0 rfl
  go_wp2_with fail
  refine (CB.out _ _ _ (K5.out.tab HF.out) (HE.out.keep K5.out.below)).mono ?_
  rintro _ V5 ⟨rfl, hb⟩
  have K6 := Lib.hid (K5.out.keep hb)
  have K7 := Lib.hid (K6.out.alloc (.cells #[.int .i64 lo', .bool ld', .string la'] 28))
  clear hb r0 r1 r2 z0
  obtain ⟨⟨r0, r1, r2⟩, _, _, _⟩ := row3 (K6.out.at 1 rfl)
  obtain ⟨⟨s0', s1', s2'⟩, _, _, _⟩ := row3 (K6.out.at 0 rfl)
  have z0 := K6.out.lt 1 rfl
  have z1 := K6.out.lt 0 rfl
  go_upto_region 12 with fail
  go_cut [135] (fun v135 wx => v135 = .bool false ∧ Kp [(V5.heap.size, .cells #[.int .i64 lo', .bool ld', .string la'] 28 (0, 0)), (V4.heap.size, .cells #[.int .i64 lo, .bool ld, .string la] 28 (0, 0)), (V.heap.size, .cells #[.slice ta M tc, .slice ra N rc, .string (bs T.foot)] 25 (0, 0)), (W.heap.size, .cells #[.int .u8 n0, .int .u8 n1, .int .u8 o0, .int .u8 o1, .int .u8 k0, .int .u8 k1, .int .u8 d0, .int .u8 d1, .int .u8 s0, .int .u8 s1, .bool q, .int .i32 fi, .slice ga gn gc, .slice ka kn kc] 41 (0, 0))] (tabR (.slice ta M tc) (.slice ra N rc) T ++ []) W wx)
  case first =>
    rcases A1.out with h1 | ⟨m1, ⟨a1, b1⟩, h1, h1c, h1t⟩
    · subst h1
      rcases A2.out with h2 | ⟨⟨a2, b2⟩, h2, h2c, h2t⟩
      · subst h2
        obtain rfl : n = 0 := by omega
        go_wp2_with fail
        go_meet
        exact ⟨rfl, K7.out⟩
      · obtain ⟨g, rfl, -, -, -, hg⟩ := own_some (K6.out.row 0 rfl) (Nat.lt_of_lt_of_eq (by omega) HN.out.symm)
        obtain ⟨d2, _⟩ := tr_cell (K6.out.row 0 rfl) h2c
        rw [Nat.zero_mul] at d2
        dsimp only at d2 h2t
        have q1 : (0 : Int) < (N : Int) := by omega
        have q2 : ¬ a2 ≤ t' := by omega
        by_cases e : n = 0
        · subst e
          have hs := HS.out rfl h2
          simp only [Prod.mk.injEq, Lc.mk.injEq, and_true] at hs
          obtain ⟨rfl, rfl, rfl⟩ := hs
          go_wp2_with fail
          go_meet
          exact ⟨rfl, K7.out⟩
        · have q3 : ¬ (0 : Int) = (n : Int) := by omega
          go_wp2_with fail
          go_meet
          exact ⟨rfl, K7.out⟩
    · have p4 : (0 : Int) < (m : Int) := by omega
      have hI : (m : Int) - 1 = (m1 : Int) := by omega
      have p5 : (m1 : Int) < (N : Int) := by omega
      obtain ⟨g, rfl, -, -, -, hg⟩ := own_some (K6.out.row 0 rfl) (Nat.lt_of_lt_of_eq (by omega) HN.out.symm)
      obtain ⟨d1, _⟩ := tr_cell (K6.out.row 0 rfl) h1c
      dsimp only at d1 h1t
      have q0 : ¬ t' < a1 := by omega
      clear h1c
      rcases A2.out with h2 | ⟨⟨a2, b2⟩, h2, h2c, h2t⟩
      · obtain rfl : n = m := by omega
        have q1 : ¬ (n : Int) < (N : Int) := by omega
        clear h1 h2
        go_wp2_with fail
        go_meet
        exact ⟨rfl, K7.out⟩
      · obtain ⟨d2, _⟩ := tr_cell (K6.out.row 0 rfl) h2c
        dsimp only at d2 h2t
        have q1 : (m : Int) < (N : Int) := by omega
        have q2 : ¬ a2 ≤ t' := by omega
        clear h1 h2c
        by_cases e : n = m
        · subst e
          have hs := HS.out rfl h2
          simp only [Prod.mk.injEq, Lc.mk.injEq, and_true] at hs
          obtain ⟨rfl, rfl, rfl⟩ := hs
          go_wp2_with fail
          go_meet
          exact ⟨rfl, K7.out⟩
        · have q3 : ¬ (m : Int) = (n : Int) := by omega
          go_wp2_with fail
          go_meet
          exact ⟨rfl, K7.out⟩
  case rest =>
    obtain ⟨rfl, hk⟩ := hcut
    have KX := Lib.hid hk
    have KT := Lib.hid (hk.pick (M := [(V.heap.size, .cells #[.slice ta M tc, .slice ra N rc, .string (bs T.foot)] 25 (0, 0))]) (by simp))
    clear hk K6 K7 r0 r1 r2 z0 z1 s0' s1' s2' A1 A2 HS p1 p2 p3 hmn hle K0 K1 K2 K3 K4 K5
    obtain ⟨⟨r0, r1, r2⟩, _, _, _⟩ := row3 (KX.out.at 2 rfl)
    have z0 := KX.out.lt 2 rfl
    go_wp2_with fail
    go_loopw [19, 20, 21, 139] (fun _ _ _ i139 wr => ∃ i : Nat, i ≤ N ∧ i139 = .int .i64 i ∧ Kp [(V.heap.size, .cells #[.slice ta M tc, .slice ra N rc, .string (bs T.foot)] 25 (0, 0))] (tabR (.slice ta M tc) (.slice ra N rc) T ++ []) W wr) (fun _ _ _ i139 _ => N - (intOf i139).toNat)
    case atStart => exact ⟨0, by omega, rfl, KT.out⟩
    case round =>
      obtain ⟨i, hi', rfl, hK⟩ := hrel
      have HK := Lib.hid hK
      clear hK KT KX r0 r1 r2 z0
      by_cases hlt : i < N
      · obtain ⟨a, k, ⟨yo, yd, ya⟩, hc, hy⟩ := HMid.out i hlt
        have hL := HTr.out i _ hc
        rw [show T.types.getD (Tr.mk a (k : Int)).ty.toNat Lc.zero = ⟨yo, yd, ya⟩ by simp [List.getD, hy]] at hL
        have CL1 := CL.out a
        rw [hL] at CL1
        unfold Lc.val at CL1
        dsimp only at CL1
        have CL2 := Lib.hid CL1
        have hkM : k < M := by have := (List.getElem?_eq_some_iff.1 hy).1; rw [HM.out] at this; exact this
        obtain ⟨g, rfl, -, -, -, hg⟩ := own_some (HK.out.row 0 rfl) (Nat.lt_of_lt_of_eq (by omega) HN.out.symm)
        obtain ⟨g', rfl, -, -, -, hg'⟩ := own_some (HK.out.row 1 rfl) (Nat.lt_of_lt_of_eq (by omega) HM.out.symm)
        have HY := Lib.hid hy
        obtain ⟨d0, d1⟩ := tr_cell (HK.out.row 0 rfl) hc
        dsimp only at d0 d1
        obtain ⟨⟨r0, r1, r2⟩, _, _, _⟩ := row3 (HK.out.at 0 rfl)
        have z0 := HK.out.lt 0 rfl
        have hlt' : (i : Int) < (N : Int) := by omega
        have hkM' : (k : Int) < (M : Int) := by omega
        have KA := Lib.hid (HK.out.alloc (.cells #[.int .i64 a, .int .i64 k] 59))
        clear hc hy hL CL1
        go_wp2_with fail
        refine (CL2.out _ _ _ (KA.out.tab HF.out) (HE.out.keep KA.out.below)).mono ?_
        rintro _ V6 ⟨rfl, hb⟩
        have KB := Lib.hid (KA.out.keep hb)
        have KC := Lib.hid (KB.out.alloc (.cells #[.int .i64 yo, .bool yd, .string ya] 28))
        clear hb d0 d1 r0 r1 r2 z0 hg hg'
        obtain ⟨⟨r0, r1, r2⟩, _, _, _⟩ := row3 (KB.out.at 1 rfl)
        obtain ⟨w0, w1⟩ := row2 (KB.out.at 0 rfl)
        have z0 := KB.out.lt 0 rfl
        have z1 := KB.out.lt 1 rfl
        obtain ⟨e0, e1, e2⟩ := lc_cell (KB.out.row 1 rfl) HY.out
        dsimp only at e0 e1 e2
        have hgw : g' < V6.heap.size := ((KB.out.row 1 rfl).lt g' rfl).2
        go_upto_region 18 with fail
        go_quiet (fail)
        go_wp2_with fail
        go_roundw
        case rel => exact ⟨i + 1, by omega, by go_num, (KC.out.drop.drop).call (Civ.below_drewN (Below.refl _ _) _) rfl rfl rfl rfl⟩
        case measure => simp [intOf]; omega
      · obtain rfl : i = N := by omega
        go_wp2_with fail
        refine (CW.out _ (HE.out.keep HK.out.below)).mono ?_
        rintro _ V6 ⟨rfl, hb⟩
        have K9 := Lib.hid (HK.out.keep hb)
        clear hb
        go_wp2_with fail
        go_ret
        exact ⟨rfl, K9.out.below⟩
end Go.Proofs.YtlaplgaccjmbhaaGreatDoor.Px

