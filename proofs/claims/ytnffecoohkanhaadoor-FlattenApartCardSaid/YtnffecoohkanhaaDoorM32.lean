/- clear at slices that the call owns, whatever the number of cells of an element. What Links and Sort return, as slices that the call owns, and what stays of it while it is cleared. -/
import Derived.Test.YtnffecoohkanhaaDoorYKa
import Derived.Laws.IdiomCopy
import Derived.Test.YtnffecoohkanhaaDoorM31
namespace Go.Proofs.YtnffecoohkanhaaDoor.Px
open Go.RowKit

theorem zeroCells_one {z : Array Value} (h : ∀ u ∈ z.toList, u.oneCell' = true) (n : Nat) : ∀ u ∈ (Builtin.zeroCells z n).toList, u.oneCell' = true := by
  intro u hu
  unfold Builtin.zeroCells at hu
  simp only [Array.toList_map, List.mem_map, Array.toList_range, List.mem_range] at hu
  obtain ⟨i, hi, rfl⟩ := hu
  have hz : 0 < z.size := Nat.pos_of_ne_zero (fun e => by rw [e] at hi; omega)
  have hlt : i % z.size < z.size := Nat.mod_lt _ hz
  rw [getElem!_pos z (i % z.size) hlt]
  exact h _ (Array.getElem_mem_toList hlt)
/-- cells of an owned slice stored one behind the other -/
theorem kp_setCells {L : List (Nat × Obj)} {R : List Rw} {W : World} {g n cap N sz : Nat} {e : TypeId} (h0 : 0 < N) : ∀ (vs : List Value) (o : Nat) (xs : List Value) (X : World), Kp L (⟨.slice (some ⟨g, 0, none⟩) n cap, e, sz, N, xs⟩ :: R) W X → ∃ xs', Kp L (⟨.slice (some ⟨g, 0, none⟩) n cap, e, sz, N, xs'⟩ :: R) W (X.setCells g o vs)
  | [], _, xs, _, h => ⟨xs, h⟩
  | v :: r, o, _, _, h => kp_setCells h0 r (o + 1) _ _ (h.put h0 o v)
/-- clear of the first of the slices -/
theorem clear_kp {L : List (Nat × Obj)} {R : List Rw} {W X : World} {v : Value} {e t ty : TypeId} {sz n : Nat} {xs : List Value} {z : Value} (h : Kp L (⟨v, e, sz, n, xs⟩ :: R) W X) (ht : Tryd.prog.underlying t = some (.slice e)) (hv : ∀ w, (zeroValue e).run Tryd.prog w = .ok z w) (hz : z.cells.size = sz) (h1 : ∀ u ∈ z.cells.toList, u.oneCell' = true) :
    ∃ X' xs', (Builtin.clear_ #[t] ty #[v]).run Tryd.prog X = .ok (.tuple #[]) X' ∧ Kp L (⟨v, e, sz, n, xs'⟩ :: R) W X' := by
  by_cases h0 : 0 < n
  · obtain ⟨g, cap, cur, rfl, hk, hn, hc, hsz, _⟩ := h.known_of h0
    have hb := hk.at 0 rfl
    have hlen : (Builtin.zeroCells z.cells n).toList.length = n * sz := by
      unfold Builtin.zeroCells
      simp [hz]
    have hst := run_storeCells_cells (P := Tryd.prog) g 0 (Builtin.zeroCells z.cells n).toList 0 X (fun j hj => by
      rw [hlen] at hj
      rw [Nat.zero_add, cells_at hb]
      have : j < cur.size := by rw [hsz]; exact Nat.lt_of_lt_of_le hj (Nat.mul_le_mul_right _ hn)
      rw [Array.getElem?_eq_getElem this]
      rfl) (fun j _ => free_at hb _) (zeroCells_one h1 n)
    obtain ⟨xs', hk'⟩ := kp_setCells h0 (Builtin.zeroCells z.cells n).toList 0 xs X h
    refine ⟨_, xs', ?_, hk'⟩
    simp only [Nat.add_zero] at hst
    obtain ⟨m, rfl⟩ : ∃ m, n = m + 1 := ⟨n - 1, by omega⟩
    simp [Builtin.clear_, run_underlying ht, hv, hst]
  · obtain rfl : n = 0 := by omega
    refine ⟨X, xs, ?_, h⟩
    rcases own_cells (h.row 0 rfl) with ⟨_, hv'⟩ | ⟨g, cap, hv', _⟩
    · dsimp only at hv'
      subst hv'
      simp [Builtin.clear_, run_underlying ht]
    · dsimp only at hv'
      subst hv'
      simp [Builtin.clear_, run_underlying ht]
/-- what of a row stays when it is cleared -/
def shape (r : Rw) : Value × TypeId × Nat × Nat := (r.v, r.e, r.sz, r.n)
/-- clear of one of the slices -/
theorem clear_row {L : List (Nat × Obj)} {R : List Rw} {W X : World} {r : Rw} {t ty : TypeId} {z : Value} (h : Kp L R W X) (hr : r ∈ R) (ht : Tryd.prog.underlying t = some (.slice r.e)) (hv : ∀ w, (zeroValue r.e).run Tryd.prog w = .ok z w) (hz : z.cells.size = r.sz) (h1 : ∀ u ∈ z.cells.toList, u.oneCell' = true) :
    ∃ X' R', (Builtin.clear_ #[t] ty #[r.v]).run Tryd.prog X = .ok (.tuple #[]) X' ∧ R'.map shape = R.map shape ∧ (∀ s ∈ R, s.e ≠ r.e ∨ s.v ≠ r.v → s ∈ R') ∧ Kp L R' W X' := by
  obtain ⟨A, B, rfl⟩ := List.append_of_mem hr
  have hp : (r :: (A ++ B)).Perm (A ++ r :: B) := List.perm_middle.symm
  obtain ⟨X', xs', hrun, hk⟩ := clear_kp (ty := ty) (R := A ++ B) (h.perm hp) ht hv hz h1
  refine ⟨X', A ++ ⟨r.v, r.e, r.sz, r.n, xs'⟩ :: B, hrun, ?_, fun s hs hne => ?_, hk.perm List.perm_middle⟩
  · rw [List.map_append, List.map_append, List.map_cons, List.map_cons]
    rfl
  · rcases List.mem_append.1 hs with hs | hs
    · exact List.mem_append_left _ hs
    · rcases List.mem_cons.1 hs with rfl | hs
      · rcases hne with q | q <;> exact absurd rfl q
      · exact List.mem_append_right _ (List.mem_cons_of_mem _ hs)
theorem shape_mem {R R' : List Rw} (h : R'.map shape = R.map shape) {r : Rw} (hr : r ∈ R) : ∃ r' ∈ R', shape r' = shape r := by
  have : shape r ∈ R'.map shape := by rw [h]; exact List.mem_map.2 ⟨r, hr, rfl⟩
  obtain ⟨r', h1, h2⟩ := List.mem_map.1 this
  exact ⟨r', h1, h2⟩
end Go.Proofs.YtnffecoohkanhaaDoor.Px
namespace Go.Proofs.YtnffecoohkanhaaDoor.Px
open Go.RowKit
open Go.Maps (Keyed)
open Lk Ld St

/-- a source whose slices are among the owned ones: its zones are as the list says -/
structure XOk (R : List Rw) (ra za la : Option Addr) (nD rc nT zc nL lc : Nat) (Q : List Zo) : Prop where
  ru : ∃ r ∈ R, shape r = (.slice ra nD rc, 36, 11, nD)
  lk : ∃ r ∈ R, shape r = (.slice la nL lc, 43, 2, nL)
  zo : (⟨.slice za nT zc, 40, 2, nT, Q.flatMap zcells⟩ : Rw) ∈ R
  er : ∀ o ∈ Q, ∃ r ∈ R, r.v = .slice o.2.1 o.2.2.1 o.2.2.2 ∧ r.e = 81 ∧ r.sz = 13
  len : Q.length = nT
theorem XOk.next {R R' : List Rw} {ra za la : Option Addr} {nD rc nT zc nL lc : Nat} {Q : List Zo} (h : XOk R ra za la nD rc nT zc nL lc Q) (hs : R'.map shape = R.map shape) {r : Rw} (hk : ∀ s ∈ R, s.e ≠ r.e ∨ s.v ≠ r.v → s ∈ R') (hz : r.e ≠ 40 ∨ r.v ≠ .slice za nT zc) : XOk R' ra za la nD rc nT zc nL lc Q := by
  refine ⟨?_, ?_, hk _ h.zo ?_, fun o ho => ?_, h.len⟩
  · obtain ⟨r1, h1, h2⟩ := h.ru
    obtain ⟨r2, h3, h4⟩ := shape_mem hs h1
    exact ⟨r2, h3, h4.trans h2⟩
  · obtain ⟨r1, h1, h2⟩ := h.lk
    obtain ⟨r2, h3, h4⟩ := shape_mem hs h1
    exact ⟨r2, h3, h4.trans h2⟩
  · rcases hz with q | q
    · exact .inl (fun e => q e.symm)
    · exact .inr (fun e => q e.symm)
  · obtain ⟨r1, h1, h2, h3, h4⟩ := h.er o ho
    obtain ⟨r2, h5, h6⟩ := shape_mem hs h1
    unfold shape at h6
    simp only [Prod.mk.injEq] at h6
    exact ⟨r2, h5, h6.1.trans h2, h6.2.1.trans h3, h6.2.2.1.trans h4⟩
theorem XOk.more {R R' : List Rw} {ra za la : Option Addr} {nD rc nT zc nL lc : Nat} {Q : List Zo} (h : XOk R ra za la nD rc nT zc nL lc Q) (hs : ∀ r ∈ R, r ∈ R') : XOk R' ra za la nD rc nT zc nL lc Q := by
  refine ⟨?_, ?_, hs _ h.zo, fun o ho => ?_, h.len⟩
  · obtain ⟨r1, h1, h2⟩ := h.ru
    exact ⟨r1, hs _ h1, h2⟩
  · obtain ⟨r1, h1, h2⟩ := h.lk
    exact ⟨r1, hs _ h1, h2⟩
  · obtain ⟨r1, h1, h2⟩ := h.er o ho
    exact ⟨r1, hs _ h1, h2⟩
section
variable {D : List RuQ} {T : List ZnT} {Q : List Zo} {Ls : List (List UInt8 × List UInt8)} {Sh : List (List UInt8)} {rv zv lv sv : Value} {W : World}
/-- what comes back: owned slices, told by XOk -/
def Outs (W w' : World) (v : Value) (nD nT nL nS : Nat) : Prop :=
  ∃ (ra za la sa : Option Addr) (rc zc lc sc : Nat) (Q : List Zo) (R : List Rw), v = .agg #[.slice ra nD rc, .slice za nT zc, .slice la nL lc, .slice sa nS sc] ∧ XOk R ra za la nD rc nT zc nL lc Q ∧ Kp [] R W w'
theorem outs_of {w' : World} {rv2 zv2 lv2 sv2 : Value} {nD nT nL nS : Nat} {rs ls ss : List Value} {E : List (Zq × Zo)} {CZ : List Zo} (hp : CZ.Perm (E.map Prod.snd)) (hn : CZ.length = nT)
    (hk : Kp [] (⟨lv2, 43, 2, nL, ls⟩ :: ⟨zv2, 40, 2, nT, CZ.flatMap zcells⟩ :: ⟨sv2, 9, 1, nS, ss⟩ :: ⟨rv2, 36, 11, nD, rs⟩ :: E.reverse.map eraR) W w') : Outs W w' (.agg #[rv2, zv2, lv2, sv2]) nD nT nL nS := by
  obtain ⟨ra, rc, e3⟩ := own_slice (hk.row 3 rfl)
  obtain ⟨sa, sc, e2⟩ := own_slice (hk.row 2 rfl)
  obtain ⟨za, zc, e1⟩ := own_slice (hk.row 1 rfl)
  obtain ⟨la, lc, e0⟩ := own_slice (hk.row 0 rfl)
  dsimp only at e3 e2 e1 e0
  subst e3 e2 e1 e0
  refine ⟨ra, za, la, sa, rc, zc, lc, sc, CZ, _, rfl, ⟨⟨_, List.mem_cons_of_mem _ (List.mem_cons_of_mem _ (List.mem_cons_of_mem _ (List.mem_cons_self ..))), rfl⟩, ⟨_, List.mem_cons_self .., rfl⟩, List.mem_cons_of_mem _ (List.mem_cons_self ..), fun o ho => ?_, hn⟩, hk⟩
  obtain ⟨p, hp', rfl⟩ := List.mem_map.1 (hp.mem_iff.1 ho)
  exact ⟨eraR p, List.mem_cons_of_mem _ (List.mem_cons_of_mem _ (List.mem_cons_of_mem _ (List.mem_cons_of_mem _ (List.mem_map.2 ⟨p, List.mem_reverse.2 hp', rfl⟩)))), rfl, rfl, rfl⟩
set_option maxRecDepth 100000 in
theorem linksO (h : SrcP W rv zv lv sv D T Q Ls Sh) (hf : Few D T Ls Sh) (hck : checkL (T.map Prod.fst) Ls zoneOk = ((0, 0), 0)) :
    Calls Tryd.prog 14 #[.agg #[rv, zv, lv, sv]] W fun e w' => ∃ v, e = .returned (.tuple #[v, .int .i64 0]) ∧ Outs W w' v D.length T.length Ls.length Sh.length := by
  have h1 := hf.d; have h2 := hf.t; have h3 := hf.l; have h4 := hf.s; have h5 := h.zt.len
  have hzn : znames Q = T.map Prod.fst := h.zt.1.symm
  rw [← hzn] at hck
  refine (links35_ok rv zv lv sv D.length Sh.length _ _ (T.map zqT) Q Ls W h.ru h.src.zo h.src.lk h.sh ruq_one (svv_one Sh) (fun c => h.rn _ c) (fun c => h.kn _ c) (fun c => h.hn _ c) (by rw [List.length_map]; omega) (h.q hf) (by omega) (by omega) (by omega) (by rw [List.length_map]; omega) h.src hck (by omega)).mono ?_
  rintro e w' ⟨rv2, zv2, lv2, sv2, E, rfl, hE, hn, hk⟩
  rw [List.length_map] at hk
  exact ⟨_, rfl, outs_of (List.Perm.refl _) (by rw [List.length_map]; have := congrArg List.length hE; rw [List.length_map, List.length_map] at this; exact this) hk⟩
set_option maxRecDepth 100000 in
theorem sortO (h : SrcP W rv zv lv sv D T Q Ls Sh) (hf : Few D T Ls Sh) :
    Calls Tryd.prog 17 #[.agg #[rv, zv, lv, sv]] W fun e w' => ∃ v, e = .returned v ∧ Outs W w' v D.length T.length Ls.length Sh.length := by
  have h1 := hf.d; have h2 := hf.t; have h3 := hf.l; have h4 := hf.s; have h5 := h.zt.len
  refine (sort35_any rv zv lv sv D.length Sh.length _ _ (T.map zqT) Q Ls W h.ru h.src.zo h.src.lk h.sh ruq_one (svv_one Sh) (fun c => h.rn _ c) (fun c => h.kn _ c) (fun c => h.hn _ c) (by rw [List.length_map]; omega) (h.q hf) (by omega) (by omega) (by omega) (by rw [List.length_map]; omega) (by rw [List.length_map]; omega) h3).mono ?_
  rintro e w' ⟨rv2, zv2, lv2, sv2, E, CZ, CL2, rfl, hE, hn, hz, hl, hk⟩
  rw [List.length_map] at hk
  exact ⟨_, rfl, outs_of (stb_to_perm hz) (by rw [hz.len, List.length_map]; have := congrArg List.length hE; rw [List.length_map, List.length_map] at this; exact this) hk⟩
end
/-- a draft of chapter 23 alone: nothing is wrong with its names and links -/
theorem fine23a {n m : Nat} {Ln : List Nat} (hn0 : 0 < n) (hn : n ≤ 3) (hm : m ≤ 4) : Fine (Z23 n) (L23 n m Ln) := by
  have hln : (nm (L23 n m Ln)).Nodup := by rw [nm23]; exact o_nodup hm
  have htg : ∀ p ∈ L23 n m Ln, p.2 ∈ Z23 n ∨ (p.2 ∈ nm (L23 n m Ln) ∧ rk23 m 0 p.2 < rk23 m 0 p.1) := by
    intro p hp
    obtain ⟨i, hi, rfl⟩ := List.mem_map.1 hp
    have hi := List.mem_range.1 hi
    dsimp only
    unfold t23
    have hlt := Nat.mod_lt (Ln.getD i 0) (show 0 < n + i by omega)
    by_cases hb : n ≤ Ln.getD i 0 % (n + i)
    · rw [if_pos hb]
      refine .inr ⟨nm23_mem.2 ⟨_, by omega, rfl⟩, ?_⟩
      rw [rk_o hm hi, rk_o hm (by omega)]
      omega
    · rw [if_neg hb]
      exact .inl (Z23_mem.2 ⟨_, Nat.mod_lt _ hn0, rfl⟩)
  refine ⟨?_, hln, fun x hx hz => ?_, fun x hx => ?_, fun x hx => ?_, fun p hp => ?_, fun x hx => ?_⟩
  · refine List.pairwise_map.2 (List.nodup_range.imp_of_mem fun {i j} hi hj hne e => hne ?_)
    have h1 := List.mem_range.1 hi
    have h2 := List.mem_range.1 hj
    exact aInj (by omega) (by omega) e
  · obtain ⟨i, _, rfl⟩ := nm23_mem.1 hx
    obtain ⟨j, _, e⟩ := Z23_mem.1 hz
    exact a_ne_o _ _ e.symm
  · obtain ⟨i, _, rfl⟩ := Z23_mem.1 hx
    exact aOk (by omega)
  · obtain ⟨i, _, rfl⟩ := nm23_mem.1 hx
    exact oOk (by omega)
  · rcases htg p hp with q | q
    · exact .inl q
    · exact .inr q.1
  · have hlen : (L23 n m Ln).length = m := L23_len
    have h0 : (findG (Z23 n) (L23 n m Ln) ((L23 n m Ln).length + 1) x).2 = 0 := by
      refine ends_rank hln (rk23 m 0) htg _ x hx ?_
      rw [hlen]
      obtain ⟨i, hi, rfl⟩ := nm23_mem.1 hx
      rw [rk_o hm hi]
      omega
    unfold findL
    rw [h0]
    decide
theorem small23 {T : List ZnT} {n m : Nat} {Ln : List Nat} (hT : T.map Prod.fst = Z23 n) (hn0 : 0 < n) (hn : n ≤ 3) (hm : m ≤ 4) : SmallN T (L23 n m Ln) := by
  refine ⟨fun q hq => ?_, fun q hq => ?_⟩
  · have : q.1 ∈ T.map Prod.fst := List.mem_map.2 ⟨q, hq, rfl⟩
    rw [hT] at this
    obtain ⟨j, hj, e⟩ := Z23_mem.1 this
    rw [e]
    exact aName_len (by omega)
  · obtain ⟨i, hi, rfl⟩ := List.mem_map.1 hq
    have hi := List.mem_range.1 hi
    refine ⟨oName_len (by omega), ?_⟩
    dsimp only
    unfold t23
    have hlt := Nat.mod_lt (Ln.getD i 0) (show 0 < n + i by omega)
    have hlt2 := Nat.mod_lt (Ln.getD i 0) (show 0 < n by omega)
    split
    · exact oName_len (by omega)
    · exact aName_len (by omega)
end Go.Proofs.YtnffecoohkanhaaDoor.Px
