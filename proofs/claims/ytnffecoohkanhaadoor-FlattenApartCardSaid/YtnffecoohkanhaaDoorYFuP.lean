/- Sources with rules, eras and shifts: what Links, Sort and the reference's make of them, told by lists. -/
import Derived.Test.YtnffecoohkanhaaDoorYFuO
import Derived.Test.YtnffecoohkanhaaDoorM23
import Derived.Test.YtnffecoohkanhaaDoorYFtZ
import Derived.Test.YtnffecoohkanhaaDoorM6
import Derived.Test.YtnffecoohkanhaaDoorM13
namespace Go.Proofs.YtnffecoohkanhaaDoor.Px
open Go.RowKit
open Go.Maps (Keyed)
open Lk St

/-- a zone: its name and its eras -/
abbrev ZnT := List UInt8 × List ErQ
def zqT (p : ZnT) : Zq := ⟨p.1, p.2.length, p.2.flatMap erqC⟩
/-- zones in memory that read as a list -/
def ZT (w : World) (T : List ZnT) (Q : List Zo) : Prop := T.map Prod.fst = Q.map Prod.fst ∧ ∀ (i : Nat) (p : ZnT) (o : Zo), T[i]? = some p → Q[i]? = some o → o.2.2.1 = p.2.length ∧ SlV w (.slice o.2.1 p.2.length o.2.2.2) 13 p.2.length (p.2.flatMap erqC)
theorem ZT.keep {w w' : World} {T : List ZnT} {Q : List Zo} (h : ZT w T Q) (hB : Below w.heap.size w w') : ZT w' T Q := ⟨h.1, fun i p o hp ho => ⟨(h.2 i p o hp ho).1, (h.2 i p o hp ho).2.keep hB⟩⟩
theorem ZT.len {w : World} {T : List ZnT} {Q : List Zo} (h : ZT w T Q) : Q.length = T.length := by
  have := congrArg List.length h.1
  rw [List.length_map, List.length_map] at this
  exact this.symm
theorem ZT.nm {w : World} {T : List ZnT} {Q : List Zo} (h : ZT w T Q) {i : Nat} {p : ZnT} {o : Zo} (hp : T[i]? = some p) (ho : Q[i]? = some o) : o.1 = p.1 := by
  have e1 : (T.map Prod.fst)[i]? = some p.1 := by rw [List.getElem?_map, hp]; rfl
  have e2 : (Q.map Prod.fst)[i]? = some o.1 := by rw [List.getElem?_map, ho]; rfl
  rw [h.1, e2] at e1
  simpa using e1
theorem zt_ex {w : World} : ∀ (Q : List Zo), (∀ o ∈ Q, ZoT w o) → ∃ T : List ZnT, ZT w T Q
  | [], _ => ⟨[], rfl, fun i p o hp => by simp at hp⟩
  | o :: Q, h => by
    obtain ⟨T, h1, h2⟩ := zt_ex Q (fun x hx => h x (List.mem_cons_of_mem _ hx))
    obtain ⟨_, _, E, e1, e2⟩ := h o (List.mem_cons_self ..)
    refine ⟨(o.1, E) :: T, by rw [List.map_cons, List.map_cons, h1], fun i p q hp hq => ?_⟩
    cases i with
    | zero =>
      simp only [List.getElem?_cons_zero, Option.some.injEq] at hp hq
      subst hp hq
      exact ⟨e1, e2⟩
    | succ i => exact h2 i p q (by simpa using hp) (by simpa using hq)
/-- a source in memory that reads as lists -/
def SrcA (w : World) (v : Value) (D : List RuQ) (T : List ZnT) (Ls : List (List UInt8 × List UInt8)) (Sh : List (List UInt8)) : Prop :=
  ∃ (rv zv lv sv : Value) (Q : List Zo), v = .agg #[rv, zv, lv, sv] ∧ SlV w rv 11 D.length (D.flatMap ruqC) ∧ ZoV w zv Q ∧ ZT w T Q ∧ LkV w lv Ls ∧ SlV w sv 1 Sh.length (Sh.map svv)
theorem SrcA.keep {w w' : World} {v : Value} {D : List RuQ} {T : List ZnT} {Ls : List (List UInt8 × List UInt8)} {Sh : List (List UInt8)} (h : SrcA w v D T Ls Sh) (hB : Below w.heap.size w w') : SrcA w' v D T Ls Sh := by
  obtain ⟨rv, zv, lv, sv, Q, h1, h2, h3, h4, h5, h6⟩ := h
  exact ⟨rv, zv, lv, sv, Q, h1, h2.keep hB, h3.keep hB, h4.keep hB, h5.keep hB, h6.keep hB⟩
theorem SrcA.nil (w : World) : SrcA w (.agg #[.slice none 0 0, .slice none 0 0, .slice none 0 0, .slice none 0 0]) [] [] [] [] :=
  ⟨_, _, _, _, [], rfl, SlV.nil w 11, SlV.nil w 2, ⟨rfl, fun i p o hp => by simp at hp⟩, SlV.nil w 2, SlV.nil w 1⟩
theorem same_A {W : World} {v v' : Value} {D : List RuQ} {T : List ZnT} {Ls : List (List UInt8 × List UInt8)} {Sh : List (List UInt8)} (h : SrcA W v D T Ls Sh) (h' : SrcA W v' D T Ls Sh) :
    Calls Tryd.prog 16 #[v, v'] W fun e w' => e = .returned (.bool true) ∧ Below W.heap.size W w' := by
  obtain ⟨rv, zv, lv, sv, Q, rfl, h2, h3, h4, h5, h6⟩ := h
  obtain ⟨rv', zv', lv', sv', Q', rfl, h2', h3', h4', h5', h6'⟩ := h'
  refine same_any rv zv lv sv rv' zv' lv' sv' D Q Q' Ls Sh W h2 h2' h3 h3' (by rw [h4.len, h4'.len]) (fun i p q hp hq => ?_) h5 h5' h6 h6'
  obtain ⟨t, ht⟩ : ∃ t, T[i]? = some t := ⟨_, List.getElem?_eq_getElem (by rw [← h4.len]; exact (List.getElem?_eq_some_iff.1 hp).1)⟩
  obtain ⟨a1, a2⟩ := h4.2 i t p ht hp
  obtain ⟨b1, b2⟩ := h4'.2 i t q ht hq
  exact ⟨(h4.nm ht hp).trans (h4'.nm ht hq).symm, t.2, a1, b1, a2, b2⟩
/-- what is asked of a source that Links and Sort are called with -/
structure SrcP (w : World) (rv zv lv sv : Value) (D : List RuQ) (T : List ZnT) (Q : List Zo) (Ls : List (List UInt8 × List UInt8)) (Sh : List (List UInt8)) : Prop where
  ru : SlV w rv 11 D.length (D.flatMap ruqC)
  src : SrcV w zv lv Q Ls
  sh : SlV w sv 1 Sh.length (Sh.map svv)
  zt : ZT w T Q
  er : ∀ o ∈ Q, ∀ n c, (.slice o.2.1 o.2.2.1 o.2.2.2 : Value) = .slice none n c → c = 0
  rn : ∀ n c, rv = .slice none n c → c = 0
  kn : ∀ n c, lv = .slice none n c → c = 0
  hn : ∀ n c, sv = .slice none n c → c = 0
theorem SrcP.keep {w w' : World} {rv zv lv sv : Value} {D : List RuQ} {T : List ZnT} {Q : List Zo} {Ls : List (List UInt8 × List UInt8)} {Sh : List (List UInt8)} (h : SrcP w rv zv lv sv D T Q Ls Sh) (hB : Below w.heap.size w w') : SrcP w' rv zv lv sv D T Q Ls Sh :=
  ⟨h.ru.keep hB, h.src.keep hB, h.sh.keep hB, h.zt.keep hB, h.er, h.rn, h.kn, h.hn⟩
theorem SrcP.A {w : World} {rv zv lv sv : Value} {D : List RuQ} {T : List ZnT} {Q : List Zo} {Ls : List (List UInt8 × List UInt8)} {Sh : List (List UInt8)} (h : SrcP w rv zv lv sv D T Q Ls Sh) : SrcA w (.agg #[rv, zv, lv, sv]) D T Ls Sh :=
  ⟨rv, zv, lv, sv, Q, rfl, h.ru, h.src.zo, h.zt, h.src.lk, h.sh⟩
/-- few enough -/
structure Few (D : List RuQ) (T : List ZnT) (Ls : List (List UInt8 × List UInt8)) (Sh : List (List UInt8)) : Prop where
  d : D.length ≤ 1000
  t : T.length < 20
  l : Ls.length < 20
  s : Sh.length ≤ 1000
  e : ∀ p ∈ T, p.2.length ≤ 1000
theorem SrcP.q {w : World} {rv zv lv sv : Value} {D : List RuQ} {T : List ZnT} {Q : List Zo} {Ls : List (List UInt8 × List UInt8)} {Sh : List (List UInt8)} (h : SrcP w rv zv lv sv D T Q Ls Sh) (hf : Few D T Ls Sh) :
    ∀ (i : Nat) (z : Zq) (o : Zo), (T.map zqT)[i]? = some z → Q[i]? = some o → ZqOk w z o := by
  intro i z o hz ho
  rw [List.getElem?_map] at hz
  cases ht : T[i]? with
  | none => rw [ht] at hz; cases hz
  | some p =>
    rw [ht] at hz
    simp only [Option.map_some, Option.some.injEq] at hz
    subst hz
    obtain ⟨e1, e2⟩ := h.zt.2 i p o ht ho
    refine ⟨h.zt.nm ht ho, ?_, fun c hc => ?_, erq_one, ?_⟩
    · show SlV w (.slice o.2.1 o.2.2.1 o.2.2.2) 13 p.2.length _
      rw [e1]
      exact e2
    · exact h.er o (List.mem_of_getElem? ho) _ c hc
    · have := hf.e p (List.mem_of_getElem? ht)
      show p.2.length ≤ 1000000
      omega
theorem svv_one (l : List (List UInt8)) : ∀ u ∈ l.map svv, u.oneCell' = true := fun u hu => by
  obtain ⟨x, _, rfl⟩ := List.mem_map.1 hu
  rfl
/-- what was copied reads as the same list -/
theorem zt_copy {L : List (Nat × Obj)} {R : List Rw} {W X : World} {E : List (Zq × Zo)} {T : List ZnT} (h : Kp L (R ++ E.reverse.map eraR) W X) (hE : E.map Prod.fst = T.map zqT) (hn : ∀ p ∈ E, p.2.1 = p.1.nm) : ZT X T (E.map Prod.snd) := by
  have key : ∀ (i : Nat) (p : ZnT) (o : Zo), T[i]? = some p → (E.map Prod.snd)[i]? = some o → ∃ q ∈ E, q.1 = zqT p ∧ q.2 = o := by
    intro i p o hp ho
    rw [List.getElem?_map] at ho
    cases he : E[i]? with
    | none => rw [he] at ho; cases ho
    | some q =>
      rw [he] at ho
      simp only [Option.map_some, Option.some.injEq] at ho
      have e1 : (E.map Prod.fst)[i]? = some q.1 := by rw [List.getElem?_map, he]; rfl
      have e2 : (T.map zqT)[i]? = some (zqT p) := by rw [List.getElem?_map, hp]; rfl
      rw [hE, e2] at e1
      exact ⟨q, List.mem_of_getElem? he, (Option.some.inj e1).symm, ho⟩
  have hl : T.length = E.length := by have := congrArg List.length hE; rw [List.length_map, List.length_map] at this; exact this.symm
  refine ⟨List.ext_getElem? fun i => ?_, fun i p o hp ho => ?_⟩
  · rw [List.getElem?_map, List.getElem?_map]
    by_cases hi : i < T.length
    · obtain ⟨p, hp⟩ : ∃ p, T[i]? = some p := ⟨_, List.getElem?_eq_getElem hi⟩
      obtain ⟨o, ho⟩ : ∃ o, (E.map Prod.snd)[i]? = some o := ⟨_, List.getElem?_eq_getElem (by rw [List.length_map]; omega)⟩
      obtain ⟨q, hq, e1, e2⟩ := key i p o hp ho
      have h3 := hn q hq
      rw [e1, e2] at h3
      rw [hp, ho]
      show some p.1 = some o.1
      rw [h3]
      rfl
    · rw [List.getElem?_eq_none (by omega), List.getElem?_eq_none (by rw [List.length_map]; omega)]
      rfl
  · obtain ⟨q, hq, e1, e2⟩ := key i p o hp ho
    have hr := SlV.of_own (h.own (eraR q) (List.mem_append_right _ (List.mem_map.2 ⟨q, List.mem_reverse.2 hq, rfl⟩)))
    unfold eraR at hr
    dsimp only at hr
    rw [e1, e2] at hr
    obtain ⟨a, c, e3, _, _⟩ := hr.slA
    simp only [Value.slice.injEq] at e3
    have h1 : o.2.2.1 = p.2.length := e3.2.1
    refine ⟨h1, ?_⟩
    rw [h1] at hr
    exact hr
/-- zones that are sorted read as the list sorted -/
theorem zt_sort {W : World} {T CT : List ZnT} {Q CQ : List Zo} (h : ZT W T Q) (hT : Stb (rkN T) T CT) (hQ : Stb (rkN Q) Q CQ) : ZT W CT CQ := by
  obtain ⟨e, hr⟩ := stb_pair (A := T) (B := Q) h.1 (fun p o => o.2.2.1 = p.2.length ∧ SlV W (.slice o.2.1 p.2.length o.2.2.2) 13 p.2.length (p.2.flatMap erqC)) (fun i a b ha hb => h.2 i a b ha hb) hT hQ
  exact ⟨e, fun j p o hp ho => hr j p o hp ho⟩
/-- the slices of a source -/
def SlQ (v : Value) (nr nz nl ns : Nat) : Prop := ∃ ra rc za zc la lc sa sc, v = .agg #[.slice ra nr rc, .slice za nz zc, .slice la nl lc, .slice sa ns sc]
section
variable {rv zv lv sv : Value} {D : List RuQ} {T : List ZnT} {Q : List Zo} {Ls : List (List UInt8 × List UInt8)} {Sh : List (List UInt8)} {W : World}
set_option maxRecDepth 100000 in
theorem linksP_no (h : SrcP W rv zv lv sv D T Q Ls Sh) (hf : Few D T Ls Sh) {er : Int} (he : (checkL (znames Q) Ls zoneOk).2 = er) (her : er ≠ 0) :
    Calls Tryd.prog 14 #[.agg #[rv, zv, lv, sv]] W fun e w' => e = .returned (.tuple #[.agg #[.slice none 0 0, .slice none 0 0, .slice none 0 0, .slice none 0 0], .int .i64 er]) ∧ Below W.heap.size W w' := by
  have h1 := hf.d; have h2 := hf.t; have h3 := hf.l; have h4 := hf.s; have h5 := h.zt.len
  exact links35_no rv zv lv sv D.length Sh.length _ _ (T.map zqT) Q Ls W h.ru h.src.zo h.src.lk h.sh ruq_one (svv_one Sh) (fun c => h.rn _ c) (fun c => h.kn _ c) (fun c => h.hn _ c) (by rw [List.length_map]; omega) (h.q hf) (by omega) (by omega) (by omega) (by rw [List.length_map]; omega) h.src er he her (by omega)
set_option maxRecDepth 100000 in
theorem linksP_ok (h : SrcP W rv zv lv sv D T Q Ls Sh) (hf : Few D T Ls Sh) (hck : checkL (znames Q) Ls zoneOk = ((0, 0), 0)) :
    Calls Tryd.prog 14 #[.agg #[rv, zv, lv, sv]] W fun e w' => ∃ v, e = .returned (.tuple #[v, .int .i64 0]) ∧ SrcA w' v D T (flatL (znames Q) Ls) Sh ∧ SlQ v D.length T.length Ls.length Sh.length ∧ Below W.heap.size W w' := by
  have h1 := hf.d; have h2 := hf.t; have h3 := hf.l; have h4 := hf.s; have h5 := h.zt.len
  refine (links35_ok rv zv lv sv D.length Sh.length _ _ (T.map zqT) Q Ls W h.ru h.src.zo h.src.lk h.sh ruq_one (svv_one Sh) (fun c => h.rn _ c) (fun c => h.kn _ c) (fun c => h.hn _ c) (by rw [List.length_map]; omega) (h.q hf) (by omega) (by omega) (by omega) (by rw [List.length_map]; omega) h.src hck (by omega)).mono ?_
  rintro e w' ⟨rv2, zv2, lv2, sv2, E, rfl, hE, hn, hk⟩
  have hlen : (E.map Prod.snd).length = (T.map zqT).length := by rw [← hE, List.length_map, List.length_map]
  have r3 := SlV.of_own (hk.row 3 rfl)
  have r2 := SlV.of_own (hk.row 2 rfl)
  have r1 := SlV.of_own (hk.row 1 rfl)
  have r0 := SlV.of_own (hk.row 0 rfl)
  obtain ⟨ra, rc, e3, _, _⟩ := r3.slA
  obtain ⟨sa, sc, e2, _, _⟩ := r2.slA
  obtain ⟨za, zc, e1, _, _⟩ := r1.slA
  obtain ⟨la, lc, e0, _, _⟩ := r0.slA
  dsimp only at e3 e2 e1 e0
  rw [List.length_map] at e1
  refine ⟨_, rfl, ⟨rv2, zv2, lv2, sv2, E.map Prod.snd, rfl, r3, ?_, zt_copy (R := [_, _, _, _]) hk hE hn, ?_, r2⟩, ⟨ra, rc, za, zc, la, lc, sa, sc, by rw [e3, e2, e1, e0]⟩, hk.below⟩
  · unfold ZoV
    rw [hlen]
    exact r1
  · unfold LkV
    rw [flatL_len]
    exact r0
set_option maxRecDepth 100000 in
theorem sortP (h : SrcP W rv zv lv sv D T Q Ls Sh) (hf : Few D T Ls Sh) {CT : List ZnT} {CL : List (List UInt8 × List UInt8)} (hT : Stb (rkN T) T CT) (hL : Stb (rkN Ls) Ls CL) :
    Calls Tryd.prog 17 #[.agg #[rv, zv, lv, sv]] W fun e w' => ∃ v, e = .returned v ∧ SrcA w' v D CT CL Sh ∧ SlQ v D.length T.length Ls.length Sh.length ∧ Below W.heap.size W w' := by
  have h1 := hf.d; have h2 := hf.t; have h3 := hf.l; have h4 := hf.s; have h5 := h.zt.len
  refine (sort35_any rv zv lv sv D.length Sh.length _ _ (T.map zqT) Q Ls W h.ru h.src.zo h.src.lk h.sh ruq_one (svv_one Sh) (fun c => h.rn _ c) (fun c => h.kn _ c) (fun c => h.hn _ c) (by rw [List.length_map]; omega) (h.q hf) (by omega) (by omega) (by omega) (by rw [List.length_map]; omega) (by rw [List.length_map]; omega) h3).mono ?_
  rintro e w' ⟨rv2, zv2, lv2, sv2, E, CZ, CL2, rfl, hE, hn, hz, hl, hk⟩
  have hlen : CZ.length = (T.map zqT).length := by rw [hz.len, ← hE, List.length_map, List.length_map]
  obtain rfl := hl.unique hL
  have r3 := SlV.of_own (hk.row 3 rfl)
  have r2 := SlV.of_own (hk.row 2 rfl)
  have r1 := SlV.of_own (hk.row 1 rfl)
  have r0 := SlV.of_own (hk.row 0 rfl)
  obtain ⟨ra, rc, e3, _, _⟩ := r3.slA
  obtain ⟨sa, sc, e2, _, _⟩ := r2.slA
  obtain ⟨za, zc, e1, _, _⟩ := r1.slA
  obtain ⟨la, lc, e0, _, _⟩ := r0.slA
  dsimp only at e3 e2 e1 e0
  rw [List.length_map] at e1
  refine ⟨_, rfl, ⟨rv2, zv2, lv2, sv2, CZ, rfl, r3, ?_, zt_sort (zt_copy (R := [_, _, _, _]) hk hE hn) hT hz, ?_, r2⟩, ⟨ra, rc, za, zc, la, lc, sa, sc, by rw [e3, e2, e1, e0]⟩, hk.below⟩
  · unfold ZoV
    rw [hlen]
    exact r1
  · unfold LkV
    rw [hl.len]
    exact r0
set_option maxRecDepth 100000 in
theorem rlinksP_ok (h : SrcP W rv zv lv sv D T Q Ls Sh) (hf : Few D T Ls Sh) (hck : checkL (znames Q) Ls zoneOk = ((0, 0), 0)) :
    Calls Tryd.prog 15 #[.agg #[rv, zv, lv, sv]] W fun e w' => ∃ v, e = .returned (.tuple #[v, .int .i64 0]) ∧ SrcA w' v D T (flatL (znames Q) Ls) Sh ∧ SlQ v D.length T.length Ls.length Sh.length ∧ Below W.heap.size W w' := by
  have h1 := hf.d; have h2 := hf.t; have h3 := hf.l; have h4 := hf.s; have h5 := h.zt.len
  obtain ⟨ra, rc, er, _, _⟩ := h.ru.slA
  obtain ⟨sa, sc, es, _, _⟩ := h.sh.slA
  obtain ⟨za, zc, ez, _, _⟩ := SlV.slA h.src.zo
  refine (rlinks_ok rv zv lv sv Q Ls W h.src (by omega) (by omega) ⟨_, _, _, er⟩ ⟨_, _, _, es⟩ hck).mono ?_
  rintro e w' ⟨lv2, rfl, hk⟩
  have hB := hk.below
  have r0 := SlV.of_own (hk.row 0 rfl)
  obtain ⟨la, lc, e0, _, _⟩ := r0.slA
  dsimp only at e0
  refine ⟨_, rfl, ⟨rv, zv, lv2, sv, Q, rfl, h.ru.keep hB, h.src.zo.keep hB, h.zt.keep hB, ?_, h.sh.keep hB⟩, ⟨ra, rc, za, zc, la, lc, sa, sc, by rw [er, ez, e0, es, h5]⟩, hB⟩
  unfold LkV
  rw [flatL_len]
  exact r0
set_option maxRecDepth 100000 in
theorem rsortP (h : SrcP W rv zv lv sv D T Q Ls Sh) (hf : Few D T Ls Sh) {CT : List ZnT} {CL : List (List UInt8 × List UInt8)} (hT : Stb (rkN T) T CT) (hL : Stb (rkN Ls) Ls CL) :
    Calls Tryd.prog 18 #[.agg #[rv, zv, lv, sv]] W fun e w' => ∃ v, e = .returned v ∧ SrcA w' v D CT CL Sh ∧ Below W.heap.size W w' := by
  have h1 := hf.d; have h2 := hf.t; have h3 := hf.l; have h4 := hf.s; have h5 := h.zt.len
  obtain ⟨ra, rc, er, _, _⟩ := h.ru.slA
  obtain ⟨sa, sc, es, _, _⟩ := h.sh.slA
  refine (rsort_any rv zv lv sv Q Ls W h.src (by omega) (by omega) ⟨_, _, _, er⟩ ⟨_, _, _, es⟩).mono ?_
  rintro e w' ⟨zv2, lv2, CZ, CL2, rfl, hz, hl, hk⟩
  have hB := hk.below
  obtain rfl := hl.unique hL
  have r1 := SlV.of_own (hk.row 1 rfl)
  have r0 := SlV.of_own (hk.row 0 rfl)
  refine ⟨_, rfl, ⟨rv, zv2, lv2, sv, CZ, rfl, h.ru.keep hB, ?_, zt_sort (h.zt.keep hB) hT hz, ?_, h.sh.keep hB⟩, hB⟩
  · unfold ZoV
    rw [hz.len]
    exact r1
  · unfold LkV
    rw [hl.len]
    exact r0
end
end Go.Proofs.YtnffecoohkanhaaDoor.Px
