/- Sources that a call made: what Links and Sort make of them is made likewise; a source joined of one of chapter 23 and one of chapter 15. Sources joined of a draft of chapter 23 and one of chapter 15, plain: few, short names, no faults; what sorting a sorted list does. No program in sight. -/
import Derived.Test.YtnffecoohkanhaaDoorYDxH
import Derived.Test.YtnffecoohkanhaaDoorM24
import Derived.Test.YtnffecoohkanhaaDoorM12
import Derived.Test.YtnffecoohkanhaaDoorM26
import Derived.Test.YtnffecoohkanhaaDoorM7
namespace Go.Proofs.YtnffecoohkanhaaDoor.Px
open Go.RowKit
open Go.Maps (Keyed)
open Lk Ld St

/-- short names -/
structure SmallN (T : List ZnT) (Ls : List (List UInt8 × List UInt8)) : Prop where
  t : ∀ p ∈ T, p.1.length ≤ 100
  l : ∀ p ∈ Ls, p.1.length ≤ 100 ∧ p.2.length ≤ 100
theorem own_nil2 {W : World} {B : Nat} {e : TypeId} {sz N : Nat} {v : Value} {xs : List Value} (h : W.ownsRow B e sz v N xs) : ∀ n c, v = .slice none n c → c = 0 := by
  intro n c hc
  rcases own_cells h with ⟨h0, hv⟩ | ⟨g, cap, hv, _⟩
  · rw [hv] at hc
    simp only [Value.slice.injEq] at hc
    exact hc.2.2.symm
  · rw [hv] at hc
    simp at hc
section
variable {D : List RuQ} {T : List ZnT} {Q : List Zo} {Ls : List (List UInt8 × List UInt8)} {Sh : List (List UInt8)} {rv zv lv sv : Value}
theorem srcP_own {X : World} {B : Nat} (hr : X.ownsRow B 36 11 rv D.length (D.flatMap ruqC)) (hz : X.ownsRow B 40 2 zv Q.length (Q.flatMap zcells)) (hl : X.ownsRow B 43 2 lv Ls.length (Ls.flatMap kcells)) (hs : X.ownsRow B 9 1 sv Sh.length (Sh.map svv))
    (hzt : ZT X T Q) (her : ∀ o ∈ Q, ∀ n c, (.slice o.2.1 o.2.2.1 o.2.2.2 : Value) = .slice none n c → c = 0) (hsm : SmallN T Ls) : SrcP X rv zv lv sv D T Q Ls Sh := by
  refine ⟨SlV.of_own hr, ⟨SlV.of_own hz, SlV.of_own hl, fun z hz => ?_, fun p hp => ?_⟩, SlV.of_own hs, hzt, her, own_nil2 hr, own_nil2 hl, own_nil2 hs⟩
  · have : z.1 ∈ T.map Prod.fst := by rw [hzt.1]; exact List.mem_map.2 ⟨z, hz, rfl⟩
    obtain ⟨p, hp, e⟩ := List.mem_map.1 this
    have := hsm.t p hp
    unfold maxLen
    rw [← e]
    omega
  · have := hsm.l p hp
    unfold maxLen
    omega
theorem eras_nil2 {X : World} {L : List (Nat × Obj)} {R : List Rw} {W : World} {E : List (Zq × Zo)} (h : Kp L (R ++ E.reverse.map eraR) W X) : ∀ o ∈ E.map Prod.snd, ∀ n c, (.slice o.2.1 o.2.2.1 o.2.2.2 : Value) = .slice none n c → c = 0 := by
  intro o ho n c hc
  obtain ⟨p, hp, rfl⟩ := List.mem_map.1 ho
  exact own_nil2 (h.own (eraR p) (List.mem_append_right _ (List.mem_map.2 ⟨p, List.mem_reverse.2 hp, rfl⟩))) n c hc
/-- a source in memory that Links and Sort may be called with -/
def SrcW (w : World) (v : Value) (D : List RuQ) (T : List ZnT) (Ls : List (List UInt8 × List UInt8)) (Sh : List (List UInt8)) : Prop :=
  ∃ (ra za la sa : Option Addr) (rc zc lc sc : Nat) (Q : List Zo), v = .agg #[.slice ra D.length rc, .slice za T.length zc, .slice la Ls.length lc, .slice sa Sh.length sc] ∧ SrcP w (.slice ra D.length rc) (.slice za T.length zc) (.slice la Ls.length lc) (.slice sa Sh.length sc) D T Q Ls Sh
theorem SrcP.W {w : World} (h : SrcP w rv zv lv sv D T Q Ls Sh) : SrcW w (.agg #[rv, zv, lv, sv]) D T Ls Sh := by
  obtain ⟨ra, rc, rfl, _, _⟩ := h.ru.slA
  obtain ⟨za, zc, e, _, _⟩ := SlV.slA h.src.zo
  obtain ⟨la, lc, rfl, _, _⟩ := SlV.slA h.src.lk
  obtain ⟨sa, sc, rfl, _, _⟩ := h.sh.slA
  rw [h.zt.len] at e
  subst e
  exact ⟨_, _, _, _, _, _, _, _, Q, rfl, h⟩
theorem flat_small {Z : List (List UInt8)} (hz : ∀ x ∈ Z, x.length ≤ 100) (hsm : SmallN T Ls) : SmallN T (flatL Z Ls) := by
  refine ⟨hsm.t, fun p hp => ?_⟩
  obtain ⟨q, hq, rfl⟩ := List.mem_map.1 hp
  refine ⟨(hsm.l q hq).1, ?_⟩
  show (Z.getD _ []).length ≤ 100
  rw [List.getD]
  cases hj : Z[(findL Z Ls q.1).1]? with
  | none => exact Nat.zero_le _
  | some x => exact hz x (List.mem_of_getElem? hj)
theorem small_names (hsm : SmallN T Ls) : ∀ x ∈ T.map Prod.fst, x.length ≤ 100 := fun x hx => by
  obtain ⟨p, hp, rfl⟩ := List.mem_map.1 hx
  exact hsm.t p hp
section
variable {W : World}
set_option maxRecDepth 100000 in
theorem linksW (h : SrcP W rv zv lv sv D T Q Ls Sh) (hf : Few D T Ls Sh) (hsm : SmallN T Ls) (hck : checkL (T.map Prod.fst) Ls zoneOk = ((0, 0), 0)) :
    Calls Tryd.prog 14 #[.agg #[rv, zv, lv, sv]] W fun e w' => ∃ v, e = .returned (.tuple #[v, .int .i64 0]) ∧ SrcW w' v D T (flatL (T.map Prod.fst) Ls) Sh ∧ Below W.heap.size W w' := by
  have h1 := hf.d; have h2 := hf.t; have h3 := hf.l; have h4 := hf.s; have h5 := h.zt.len
  have hzn : znames Q = T.map Prod.fst := h.zt.1.symm
  rw [← hzn] at hck
  refine (links35_ok rv zv lv sv D.length Sh.length _ _ (T.map zqT) Q Ls W h.ru h.src.zo h.src.lk h.sh ruq_one (svv_one Sh) (fun c => h.rn _ c) (fun c => h.kn _ c) (fun c => h.hn _ c) (by rw [List.length_map]; omega) (h.q hf) (by omega) (by omega) (by omega) (by rw [List.length_map]; omega) h.src hck (by omega)).mono ?_
  rintro e w' ⟨rv2, zv2, lv2, sv2, E, rfl, hE, hn, hk⟩
  refine ⟨_, rfl, SrcP.W (srcP_own (hk.row 3 rfl) (Q := E.map Prod.snd) ?_ ?_ (hk.row 2 rfl) (zt_copy (R := [_, _, _, _]) hk hE hn) (eras_nil2 (R := [_, _, _, _]) hk) (flat_small (small_names hsm) hsm)), hk.below⟩
  · have hlen : (E.map Prod.snd).length = (T.map zqT).length := by rw [← hE, List.length_map, List.length_map]
    rw [hlen]
    exact hk.row 1 rfl
  · rw [flatL_len, ← hzn]
    exact hk.row 0 rfl
set_option maxRecDepth 100000 in
theorem sortW (h : SrcP W rv zv lv sv D T Q Ls Sh) (hf : Few D T Ls Sh) (hsm : SmallN T Ls) {CT : List ZnT} {CL : List (List UInt8 × List UInt8)} (hT : Stb (rkN T) T CT) (hL : Stb (rkN Ls) Ls CL) :
    Calls Tryd.prog 17 #[.agg #[rv, zv, lv, sv]] W fun e w' => ∃ v, e = .returned v ∧ SrcW w' v D CT CL Sh ∧ Below W.heap.size W w' := by
  have h1 := hf.d; have h2 := hf.t; have h3 := hf.l; have h4 := hf.s; have h5 := h.zt.len
  refine (sort35_any rv zv lv sv D.length Sh.length _ _ (T.map zqT) Q Ls W h.ru h.src.zo h.src.lk h.sh ruq_one (svv_one Sh) (fun c => h.rn _ c) (fun c => h.kn _ c) (fun c => h.hn _ c) (by rw [List.length_map]; omega) (h.q hf) (by omega) (by omega) (by omega) (by rw [List.length_map]; omega) (by rw [List.length_map]; omega) h3).mono ?_
  rintro e w' ⟨rv2, zv2, lv2, sv2, E, CZ, CL2, rfl, hE, hn, hz, hl, hk⟩
  have hlen : CZ.length = (T.map zqT).length := by rw [hz.len, ← hE, List.length_map, List.length_map]
  obtain rfl := hl.unique hL
  have pT := stb_to_perm hT
  have pL := stb_to_perm hL
  have pZ := stb_to_perm hz
  refine ⟨_, rfl, SrcP.W (srcP_own (hk.row 3 rfl) (Q := CZ) ?_ ?_ (hk.row 2 rfl) (zt_sort (zt_copy (R := [_, _, _, _]) hk hE hn) hT hz) (fun o ho => eras_nil2 (R := [_, _, _, _]) hk o (pZ.mem_iff.1 ho)) ⟨fun p hp => hsm.t p (pT.mem_iff.1 hp), fun p hp => hsm.l p (pL.mem_iff.1 hp)⟩), hk.below⟩
  · rw [hlen]
    exact hk.row 1 rfl
  · rw [hl.len]
    exact hk.row 0 rfl
end
theorem SrcW.keep {w w' : World} {v : Value} (h : SrcW w v D T Ls Sh) (hB : Below w.heap.size w w') : SrcW w' v D T Ls Sh := by
  obtain ⟨ra, za, la, sa, rc, zc, lc, sc, Q, e, h⟩ := h
  exact ⟨ra, za, la, sa, rc, zc, lc, sc, Q, e, h.keep hB⟩
theorem SrcW.A {w : World} {v : Value} (h : SrcW w v D T Ls Sh) : SrcA w v D T Ls Sh := by
  obtain ⟨ra, za, la, sa, rc, zc, lc, sc, Q, rfl, h⟩ := h
  exact h.A
end
/-- the zones of both, the first ones with their eras -/
theorem zt_join {X : World} {T : List ZnT} {Q : List Zo} (h : ZT X T Q) (Zn : List (List UInt8)) : ZT X (T ++ Zn.map fun x => (x, [])) (Q ++ zos Zn) := by
  have hl := h.len
  refine ⟨?_, fun i p o hp ho => ?_⟩
  · rw [List.map_append, List.map_append, h.1]
    unfold zos
    rw [List.map_map, List.map_map]
    rfl
  · by_cases hi : i < T.length
    · rw [List.getElem?_append_left hi] at hp
      rw [List.getElem?_append_left (by omega)] at ho
      exact h.2 i p o hp ho
    · rw [List.getElem?_append_right (by omega)] at hp
      rw [List.getElem?_append_right (by omega), hl] at ho
      unfold zos at ho
      rw [List.getElem?_map] at hp ho
      cases hz : Zn[i - T.length]? with
      | none => rw [hz] at hp; cases hp
      | some x =>
        rw [hz] at hp ho
        simp only [Option.map_some, Option.some.injEq] at hp ho
        subst hp ho
        exact ⟨rfl, SlV.nil X 13⟩
/-- a slice of several cells, known from now on, whatever is appended elsewhere -/
theorem kp_known {L : List (Nat × Obj)} {R : List Rw} {v : Value} {e : TypeId} {sz n : Nat} {xs : List Value} {W X : World} (h : Kp L (⟨v, e, sz, n, xs⟩ :: R) W X) : ∃ X1 : List (Nat × Obj), Kp (L ++ X1) R W X ∧ Always X1 W (fun Y => SlV Y v sz n xs) := by
  by_cases h0 : 0 < n
  · obtain ⟨g, cap, cur, rfl, hk, h1, h2, h3, h4⟩ := h.known_of h0
    refine ⟨[(g, .cells cur e)], hk.permL (List.perm_append_comm (l₁ := L) (l₂ := [_])), fun L' R' Y hs hk' => ?_⟩
    have hb := hk'.atM (hs _ (List.mem_singleton.2 rfl))
    rw [← h4]
    exact SlV.of_block hb h1 h2 (by rw [h3]; exact Nat.mul_le_mul_right _ h1)
  · obtain rfl : n = 0 := by omega
    have ho := h.row 0 rfl
    refine ⟨[], by rw [List.append_nil]; exact h.less (List.sublist_cons_self _ _), fun L' R' Y hs hk' => ?_⟩
    have hv := SlV.of_own ho
    obtain ⟨hl, _⟩ := hv
    dsimp only at hl
    have hxs : xs = [] := List.eq_nil_of_length_eq_zero (by rw [hl, Nat.zero_mul])
    rcases own_cells ho with ⟨_, hv⟩ | ⟨g, cap, hv, h1, h2, h3, _⟩
    · dsimp only at hv
      rw [hv, hxs]
      exact SlV.nil Y sz
    · dsimp only at hv
      rw [hv, hxs]
      exact ⟨by simp, _, _, rfl, by omega, h2, .inl rfl⟩
/-- an append of a slice to one that the call owns -/
theorem job_append_flat {o : Oper} {a : Act} {K : Act → World → Prop} {Q : Exit → Act → World → Prop} {w : World} (s x : Operand) {t e : TypeId} {sz bytes n : Nat} {i0 : TypeInfo} {z v : Value} {xs : List Value} {L : List (Nat × Obj)} {R : List Rw} {W : World}
    (ho : o.op = .call { callee := .builtin .append, args := #[s, x], argTypes := #[t, t] }) (hty : o.type = t) (hu : Tryd.prog.underlying t = some (.slice e)) (hi : Tryd.prog.info? e = some i0) (hz0 : i0.zero = some z) (hz1 : i0.size = sz) (hz2 : i0.bytes = bytes) (hzs : z.cells.size = sz) (hsz : 0 < sz) (hb : bytes ≤ 1000)
    (h : Kp L (⟨v, e, sz, n, xs⟩ :: R) W w) (m : Nat) (ys : List Value) (lv : Value) (hL : SlV w lv sz m ys) (h1 : ∀ u ∈ ys, u.oneCell' = true) (hnil : ∀ c, lv = .slice none m c → c = 0) (hmax : n + m ≤ 1000000) (hs : a.eval s = v) (hx : a.eval x = lv)
    (hK : ∀ v' w', Kp L (⟨v', e, sz, n + m, xs ++ ys⟩ :: R) W w' → K (a.put o.dst v') w') : Oper.wp Tryd.prog o a w K Q := by
  obtain ⟨v', w1, hr, hk⟩ := append_flat hu hi hz0 hz1 hz2 hzs hsz hb h m ys lv hL h1 hnil hmax
  unfold Oper.wp execOp
  simp only [ho, resolve, invoke, builtin, Sem.run_bind, Sem.run_pure, Result.andThen_ok, List.map_toArray, List.map_cons, List.map_nil, hs, hx, hty, hr]
  exact hK _ _ hk
end Go.Proofs.YtnffecoohkanhaaDoor.Px
namespace Go.Proofs.YtnffecoohkanhaaDoor.Px
open Lk Ld St

theorem a_small4 : ((List.range 3).all fun j => decide ((aName j).length ≤ 100)) = true := by kernel_rfl
theorem o_small4 : ((List.range 4).all fun j => decide ((oName j).length ≤ 100)) = true := by kernel_rfl
theorem aName_len {j : Nat} (h : j < 3) : (aName j).length ≤ 100 := of_decide_eq_true (List.all_eq_true.1 a_small4 j (List.mem_range.2 h))
theorem oName_len {j : Nat} (h : j < 4) : (oName j).length ≤ 100 := of_decide_eq_true (List.all_eq_true.1 o_small4 j (List.mem_range.2 h))
theorem L23_len {n m : Nat} {Ln : List Nat} : (L23 n m Ln).length = m := by unfold L23; rw [List.length_map, List.length_range]
/-- the zones, the links of the joined source -/
def joinT (T : List ZnT) (n t : Nat) : List ZnT := T ++ (zN n t).map fun x => (x, [])
def joinL (p m : Nat) (Ln : List Nat) (k n' m' : Nat) (To : List Nat) : List (List UInt8 × List UInt8) := L23 p m Ln ++ rot k (lkN n' m' To)
structure Joined (D : List RuQ) (T : List ZnT) (Ls : List (List UInt8 × List UInt8)) (a b : Nat) : Prop where
  few : Few D T Ls []
  small : SmallN T Ls
  fine : Fine (T.map Prod.fst) Ls
  tl : T.length = a
  ll : Ls.length = b
theorem join_plain {D : List RuQ} {T : List ZnT} {E : List (Zq × Zo)} {p m n' m' t k : Nat} {Ln To : List Nat} (hD : D.length ≤ 15) (hZ : ZsP p T E) (hp1 : 1 ≤ p) (hp3 : p ≤ 3) (hm : m ≤ 4) (hn1 : 1 ≤ n') (hn6 : n' ≤ 6) (hm' : m' ≤ 12) :
    Joined D (joinT T n' t) (joinL p m Ln k n' m' To) (p + n') (m + m') := by
  have hl := hZ.len
  have hfst : (joinT T n' t).map Prod.fst = Z23 p ++ zN n' t := by
    unfold joinT
    rw [List.map_append, hZ.nm, List.map_map]
    congr 1
    exact List.map_id' _
  have htl : (joinT T n' t).length = p + n' := by
    unfold joinT
    rw [List.length_append, List.length_map, zN_len, hl.1]
  have hll : (joinL p m Ln k n' m' To).length = m + m' := by
    unfold joinL
    rw [List.length_append, L23_len, made_len]
  refine ⟨⟨by omega, by omega, by omega, by simp, fun q hq => ?_⟩, ⟨fun q hq => ?_, fun q hq => ?_⟩, ?_, htl, hll⟩
  · rcases List.mem_append.1 hq with hq | hq
    · have := hZ.few q hq
      omega
    · obtain ⟨x, _, rfl⟩ := List.mem_map.1 hq
      simp
  · have : q.1 ∈ (joinT T n' t).map Prod.fst := List.mem_map.2 ⟨q, hq, rfl⟩
    rw [hfst] at this
    rcases List.mem_append.1 this with h | h
    · obtain ⟨j, hj, e⟩ := Z23_mem.1 h
      rw [e]
      exact aName_len (by omega)
    · exact z_small hn6 _ h
  · rcases List.mem_append.1 hq with hq | hq
    · obtain ⟨i, hi, rfl⟩ := List.mem_map.1 hq
      have hi := List.mem_range.1 hi
      refine ⟨oName_len (by omega), ?_⟩
      dsimp only
      unfold t23
      have hlt := Nat.mod_lt (Ln.getD i 0) (show 0 < p + i by omega)
      have hlt2 := Nat.mod_lt (Ln.getD i 0) (show 0 < p by omega)
      split
      · exact oName_len (by omega)
      · exact aName_len (by omega)
    · exact l_small (by omega) hn6 hm' q hq
  · rw [hfst]
    exact fine23 (by omega) hp3 hm (by omega) hn6 hm'
theorem rkN_perm {β : Type} {D C : List (List UInt8 × β)} (h : C.Perm D) : rkN C = rkN D := by
  funext x
  unfold rkN
  rw [h.countP_eq]
/-- what is sorted stays as it is -/
theorem stb_again {β : Type} {D C : List (List UInt8 × β)} (h : Stb (rkN D) D C) : Stb (rkN C) C C := by
  rw [rkN_perm (stb_to_perm h)]
  exact Stb.self h.sorted
/-- sorting does not look at the order if names are different -/
theorem stb_any {β : Type} {D D' C : List (List UInt8 × β)} (h : Stb (rkN D) D C) (hn : (D.map Prod.fst).Nodup) (hp : D'.Perm D) : Stb (rkN D') D' C := by
  rw [rkN_perm hp]
  have pC := stb_to_perm h
  refine stb_perm (pC.trans hp.symm) ?_
  have hnC : (C.map Prod.fst).Nodup := (pC.map Prod.fst).nodup_iff.2 hn
  have h1 : C.Pairwise (fun x y => x.1 ≠ y.1) := List.pairwise_map.1 hnC
  refine (h.sorted.and h1).imp_of_mem fun {x y} hx hy hxy => ?_
  have hk := rkN_ok D x (pC.mem_iff.1 hx) y (pC.mem_iff.1 hy)
  have hk' := rkN_ok D y (pC.mem_iff.1 hy) x (pC.mem_iff.1 hx)
  obtain ⟨ha, hb⟩ := hxy
  refine Classical.byContradiction fun hc => hb ?_
  have e : rkN D x = rkN D y := by omega
  have n1 : ¬ x.1 < y.1 := fun q => by have := hk.1 q; omega
  have n2 : ¬ y.1 < x.1 := fun q => by have := hk'.1 q; omega
  exact List.le_antisymm (List.not_lt.1 n2) (List.not_lt.1 n1)
end Go.Proofs.YtnffecoohkanhaaDoor.Px
