/- Sources without rules, eras and shifts in memory, and one of two zones with eras: what the examples of chapter 35 are made of. -/
import Derived.Test.YtnffecoohkanhaaGreatDoorM7
import Derived.Test.YtnffecoohkanhaaGreatDoorM13
namespace Go.Proofs.YtnffecoohkanhaaGreatDoor.Px
open Go.RowKit
open Go.Maps (Keyed)
open Lk St

/-- a source without rules, eras and shifts -/
def SrcQ (w : World) (v : Value) (zs : List (List UInt8)) (P : List (List UInt8 × List UInt8)) : Prop :=
  ∃ (rv zv lv sv : Value) (Q : List Zo), v = .agg #[rv, zv, lv, sv] ∧ znames Q = zs ∧ (∀ o ∈ Q, o.2.2.1 = 0 ∧ SlV w (.slice o.2.1 0 o.2.2.2) 13 0 []) ∧ SlV w rv 11 0 [] ∧ ZoV w zv Q ∧ LkV w lv P ∧ SlV w sv 1 0 []
theorem SrcQ.keep {w w' : World} {v : Value} {zs : List (List UInt8)} {P : List (List UInt8 × List UInt8)} (h : SrcQ w v zs P) (hB : Below w.heap.size w w') : SrcQ w' v zs P := by
  obtain ⟨rv, zv, lv, sv, Q, h1, h2, h3, h4, h5, h6, h7⟩ := h
  exact ⟨rv, zv, lv, sv, Q, h1, h2, fun o ho => ⟨(h3 o ho).1, (h3 o ho).2.keep hB⟩, h4.keep hB, h5.keep hB, h6.keep hB, h7.keep hB⟩
theorem srcQ_of {w : World} {zv lv : Value} {zs : List (List UInt8)} {P : List (List UInt8 × List UInt8)} (h : SrcV w zv lv (zos zs) P) : SrcQ w (.agg #[.slice none 0 0, zv, lv, .slice none 0 0]) zs P :=
  ⟨_, _, _, _, zos zs, rfl, zos_names zs, fun o ho => by
    obtain ⟨x, _, rfl⟩ := List.mem_map.1 ho
    exact ⟨rfl, SlV.nil w 13⟩, SlV.nil w 11, h.zo, h.lk, SlV.nil w 1⟩
theorem same_srcq {W : World} {v v' : Value} {zs : List (List UInt8)} {P : List (List UInt8 × List UInt8)} (h : SrcQ W v zs P) (h' : SrcQ W v' zs P) :
    Calls Tryz.prog 29 #[v, v'] W fun e w' => e = .returned (.bool true) ∧ Below W.heap.size W w' := by
  obtain ⟨rv, zv, lv, sv, Q, rfl, h2, h3, h4, h5, h6, h7⟩ := h
  obtain ⟨rv', zv', lv', sv', Q', rfl, h2', h3', h4', h5', h6', h7'⟩ := h'
  have hl : Q.length = Q'.length := by
    have e1 := congrArg List.length h2
    have e2 := congrArg List.length h2'
    rw [znames_len] at e1 e2
    omega
  refine same_any rv zv lv sv rv' zv' lv' sv' [] Q Q' P [] W h4 h4' h5 h5' hl (fun i p q hp hq => ?_) h6 h6' h7 h7'
  have e1 := znames_at hp
  have e2 := znames_at hq
  rw [h2] at e1
  rw [h2', e1] at e2
  obtain ⟨a1, a2⟩ := h3 p (List.mem_of_getElem? hp)
  obtain ⟨b1, b2⟩ := h3' q (List.mem_of_getElem? hq)
  exact ⟨by simpa using e2, [], a1, b1, a2, b2⟩
theorem eras_nil {L : List (Nat × Obj)} {R : List Rw} {W X : World} {E : List (Zq × Zo)} {zs : List (List UInt8)} (h : Kp L (R ++ E.reverse.map eraR) W X) (hE : E.map Prod.fst = zs.map zq1) : ∀ o ∈ E.map Prod.snd, o.2.2.1 = 0 ∧ SlV X (.slice o.2.1 0 o.2.2.2) 13 0 [] := by
  intro o ho
  have h0 := eras_none h hE o ho
  refine ⟨h0, ?_⟩
  obtain ⟨p, hp, rfl⟩ := List.mem_map.1 ho
  have hm : p.1.m = 0 ∧ p.1.ys = [] := by
    have h1 : p.1 ∈ zs.map zq1 := by rw [← hE]; exact List.mem_map.2 ⟨p, hp, rfl⟩
    obtain ⟨x, _, e⟩ := List.mem_map.1 h1
    rw [← e]
    exact ⟨rfl, rfl⟩
  have hr := h.own (eraR p) (List.mem_append_right _ (List.mem_map.2 ⟨p, List.mem_reverse.2 hp, rfl⟩))
  have hs := SlV.of_own hr
  unfold eraR at hs
  dsimp only at hs
  rw [h0, hm.1, hm.2] at hs
  exact hs
set_option maxRecDepth 100000 in
theorem links35_q (zv lv : Value) (zs : List (List UInt8)) (P : List (List UInt8 × List UInt8)) (W : World) (hs : SrcV W zv lv (zos zs) P) (h0 : 0 < P.length) (h1 : P.length ≤ 1000) (h2 : zs.length ≤ 1000) (hck : checkL zs P zoneOk = ((0, 0), 0)) :
    Calls Tryz.prog 5 #[.agg #[.slice none 0 0, zv, lv, .slice none 0 0]] W fun e w' => ∃ v, e = .returned (.tuple #[v, .int .i64 0]) ∧ SrcQ w' v zs (flatL zs P) ∧ (∃ ra rc za zc la lc sa sc, v = .agg #[.slice ra 0 rc, .slice za zs.length zc, .slice la P.length lc, .slice sa 0 sc]) ∧ Below W.heap.size W w' := by
  have hzl : (zos zs).length = zs.length := by unfold zos; rw [List.length_map]
  refine (links35_ok (.slice none 0 0) zv lv (.slice none 0 0) 0 0 [] [] (zs.map zq1) (zos zs) P W (SlV.nil W 11) hs.zo hs.lk (SlV.nil W 1) (fun u hu => by cases hu) (fun u hu => by cases hu) (fun c h => by simp only [Value.slice.injEq] at h; exact h.2.2.symm) (some_of hs.lk h0) (fun c h => by simp only [Value.slice.injEq] at h; exact h.2.2.symm)
    (by rw [hzl, List.length_map]) (zq1_ok W zs) (by omega) (by omega) (by omega) (by rw [List.length_map]; omega) hs (by rw [zos_names]; exact hck) (by rw [hzl]; omega)).mono ?_
  rintro e w' ⟨rv2, zv2, lv2, sv2, E, rfl, hE, hn, hk⟩
  rw [zos_names] at hk
  have hlen : (E.map Prod.snd).length = (zs.map zq1).length := by rw [← hE, List.length_map, List.length_map]
  have hr3 := SlV.of_own (hk.row 3 rfl)
  have hr2 := SlV.of_own (hk.row 2 rfl)
  have hr1 := SlV.of_own (hk.row 1 rfl)
  have hr0 := SlV.of_own (hk.row 0 rfl)
  obtain ⟨ra, rc, e3, _, _⟩ := hr3.slA
  obtain ⟨sa, sc, e2, _, _⟩ := hr2.slA
  obtain ⟨za, zc, e1, _, _⟩ := hr1.slA
  obtain ⟨la, lc, e0, _, _⟩ := hr0.slA
  rw [List.length_map] at e1
  refine ⟨_, rfl, ⟨rv2, zv2, lv2, sv2, E.map Prod.snd, rfl, names_of_copy hE hn, eras_nil (R := [_, _, _, _]) hk hE, hr3, ?_, ?_, hr2⟩, ⟨ra, rc, za, zc, la, lc, sa, sc, by dsimp only at e3 e2 e1 e0; rw [e3, e2, e1, e0]⟩, hk.below⟩
  · unfold ZoV
    rw [hlen]
    exact hr1
  · unfold LkV
    rw [flatL_len]
    exact hr0
set_option maxRecDepth 100000 in
theorem sort35_q (zv lv : Value) (zs : List (List UInt8)) (P : List (List UInt8 × List UInt8)) (W : World) (hs : SrcV W zv lv (zos zs) P) (hln : ∀ c, lv = .slice none P.length c → c = 0) (h1 : P.length < 20) (h2 : zs.length < 20) :
    Calls Tryz.prog 6 #[.agg #[.slice none 0 0, zv, lv, .slice none 0 0]] W fun e w' => ∃ (v : Value) (Q2 CZ : List Zo) (CL : List (List UInt8 × List UInt8)), e = .returned v ∧ znames Q2 = zs ∧ Stb (rkN Q2) Q2 CZ ∧ Stb (rkN P) P CL ∧ SrcQ w' v (znames CZ) CL ∧ (∃ ra rc za zc la lc sa sc, v = .agg #[.slice ra 0 rc, .slice za zs.length zc, .slice la P.length lc, .slice sa 0 sc]) ∧ Below W.heap.size W w' := by
  have hzl : (zos zs).length = zs.length := by unfold zos; rw [List.length_map]
  refine (sort35_any (.slice none 0 0) zv lv (.slice none 0 0) 0 0 [] [] (zs.map zq1) (zos zs) P W (SlV.nil W 11) hs.zo hs.lk (SlV.nil W 1) (fun u hu => by cases hu) (fun u hu => by cases hu) (fun c h => by simp only [Value.slice.injEq] at h; exact h.2.2.symm) hln (fun c h => by simp only [Value.slice.injEq] at h; exact h.2.2.symm)
    (by rw [hzl, List.length_map]) (zq1_ok W zs) (by omega) (by omega) (by omega) (by rw [List.length_map]; omega) (by rw [List.length_map]; omega) h1).mono ?_
  rintro e w' ⟨rv2, zv2, lv2, sv2, E, CZ, CL, rfl, hE, hn, hz, hl, hk⟩
  have hlen : CZ.length = (zs.map zq1).length := by rw [hz.len, ← hE, List.length_map, List.length_map]
  have hr3 := SlV.of_own (hk.row 3 rfl)
  have hr2 := SlV.of_own (hk.row 2 rfl)
  have hr1 := SlV.of_own (hk.row 1 rfl)
  have hr0 := SlV.of_own (hk.row 0 rfl)
  obtain ⟨ra, rc, e3, _, _⟩ := hr3.slA
  obtain ⟨sa, sc, e2, _, _⟩ := hr2.slA
  obtain ⟨za, zc, e1, _, _⟩ := hr1.slA
  obtain ⟨la, lc, e0, _, _⟩ := hr0.slA
  rw [List.length_map] at e1
  refine ⟨_, E.map Prod.snd, CZ, CL, rfl, names_of_copy hE hn, hz, hl, ⟨rv2, zv2, lv2, sv2, CZ, rfl, rfl, fun o ho => eras_nil (R := [_, _, _, _]) hk hE o ((hz.mem o).1 ho), hr3, ?_, ?_, hr2⟩, ⟨ra, rc, za, zc, la, lc, sa, sc, by dsimp only at e3 e2 e1 e0; rw [e3, e2, e1, e0]⟩, hk.below⟩
  · unfold ZoV
    rw [hlen]
    exact hr1
  · unfold LkV
    rw [hl.len]
    exact hr0

set_option maxRecDepth 100000 in
theorem links35_badn (zv lv : Value) (zs : List (List UInt8)) (P : List (List UInt8 × List UInt8)) (W : World) (hs : SrcV W zv lv (zos zs) P) (hln : ∀ c, lv = .slice none P.length c → c = 0) (h1 : P.length ≤ 1000) (h2 : zs.length ≤ 1000) (er : Int) (he : (checkL zs P zoneOk).2 = er) (her : er ≠ 0) :
    Calls Tryz.prog 5 #[.agg #[.slice none 0 0, zv, lv, .slice none 0 0]] W fun e w' => e = .returned (.tuple #[.agg #[.slice none 0 0, .slice none 0 0, .slice none 0 0, .slice none 0 0], .int .i64 er]) ∧ Below W.heap.size W w' := by
  have hzl : (zos zs).length = zs.length := by unfold zos; rw [List.length_map]
  exact links35_no (.slice none 0 0) zv lv (.slice none 0 0) 0 0 [] [] (zs.map zq1) (zos zs) P W (SlV.nil W 11) hs.zo hs.lk (SlV.nil W 1) (fun u hu => by cases hu) (fun u hu => by cases hu) (fun c h => by simp only [Value.slice.injEq] at h; exact h.2.2.symm) hln (fun c h => by simp only [Value.slice.injEq] at h; exact h.2.2.symm)
    (by rw [hzl, List.length_map]) (zq1_ok W zs) (by omega) (by omega) (by omega) (by rw [List.length_map]; omega) hs er (by rw [zos_names]; exact he) her (by rw [hzl]; omega)
theorem own_hln {W : World} {B : Nat} {e : TypeId} {sz n : Nat} {v : Value} {xs : List Value} (h : W.ownsRow B e sz v n xs) : ∀ c, v = .slice none n c → c = 0 := by
  intro c hc
  rcases own_cells h with ⟨h0, hv⟩ | ⟨g, cap, hv, _⟩
  · rw [hv] at hc
    simp only [Value.slice.injEq] at hc
    exact hc.2.2.symm
  · rw [hv] at hc
    simp at hc
/-- an era of nothing -/
def er0 : ErQ := ⟨0, 0, 0, ⟨#[]⟩, ⟨#[]⟩, false, 0, 0, 0, 0, 0, 0, 0⟩
/-- two zones of one name, with an era and with two -/
def TwoV (w : World) (v : Value) : Prop :=
  ∃ (rv zv lv sv : Value) (a1 a2 : Option Addr) (c1 c2 : Nat), v = .agg #[rv, zv, lv, sv] ∧ SlV w rv 11 0 [] ∧ ZoV w zv [([65], (a1, 1, c1)), ([65], (a2, 2, c2))] ∧ SlV w (.slice a1 1 c1) 13 1 ([er0].flatMap erqC) ∧ SlV w (.slice a2 2 c2) 13 2 ([er0, er0].flatMap erqC) ∧ LkV w lv [] ∧ SlV w sv 1 0 []
theorem TwoV.keep {w w' : World} {v : Value} (h : TwoV w v) (hB : Below w.heap.size w w') : TwoV w' v := by
  obtain ⟨rv, zv, lv, sv, a1, a2, c1, c2, h1, h2, h3, h4, h5, h6, h7⟩ := h
  exact ⟨rv, zv, lv, sv, a1, a2, c1, c2, h1, h2.keep hB, h3.keep hB, h4.keep hB, h5.keep hB, h6.keep hB, h7.keep hB⟩
theorem same_two {W : World} {v v' : Value} (h : TwoV W v) (h' : TwoV W v') :
    Calls Tryz.prog 29 #[v, v'] W fun e w' => e = .returned (.bool true) ∧ Below W.heap.size W w' := by
  obtain ⟨rv, zv, lv, sv, a1, a2, c1, c2, rfl, h2, h3, h4, h5, h6, h7⟩ := h
  obtain ⟨rv', zv', lv', sv', a1', a2', c1', c2', rfl, h2', h3', h4', h5', h6', h7'⟩ := h'
  refine same_any rv zv lv sv rv' zv' lv' sv' [] _ _ [] [] W h2 h2' h3 h3' rfl (fun i p q hp hq => ?_) h6 h6' h7 h7'
  match i, hp, hq with
  | 0, hp, hq =>
    simp only [List.getElem?_cons_zero, Option.some.injEq] at hp hq
    subst hp hq
    exact ⟨rfl, [er0], rfl, rfl, h4, h4'⟩
  | 1, hp, hq =>
    simp only [List.getElem?_cons_succ, List.getElem?_cons_zero, Option.some.injEq] at hp hq
    subst hp hq
    exact ⟨rfl, [er0, er0], rfl, rfl, h5, h5'⟩
  | i + 2, hp, _ => simp at hp
def zq2 : List Zq := [⟨[65], 1, [er0].flatMap erqC⟩, ⟨[65], 2, [er0, er0].flatMap erqC⟩]
set_option maxRecDepth 100000 in
theorem sort35_two (zv : Value) (b1 b2 c1 c2 : Nat) (W : World) (hz : ZoV W zv [([65], (some ⟨b1, 0, none⟩, 1, c1)), ([65], (some ⟨b2, 0, none⟩, 2, c2))]) (h1 : SlV W (.slice (some ⟨b1, 0, none⟩) 1 c1) 13 1 ([er0].flatMap erqC)) (h2 : SlV W (.slice (some ⟨b2, 0, none⟩) 2 c2) 13 2 ([er0, er0].flatMap erqC)) :
    Calls Tryz.prog 6 #[.agg #[.slice none 0 0, zv, .slice none 0 0, .slice none 0 0]] W fun e w' => ∃ v, e = .returned v ∧ TwoV w' v ∧ Below W.heap.size W w' := by
  have n0 : ∀ c : Nat, (.slice none 0 0 : Value) = .slice none 0 c → c = 0 := fun c h => by simp only [Value.slice.injEq] at h; exact h.2.2.symm
  refine (sort35_any (.slice none 0 0) zv (.slice none 0 0) (.slice none 0 0) 0 0 [] [] zq2 _ [] W (SlV.nil W 11) hz (SlV.nil W 2) (SlV.nil W 1) (fun u hu => by cases hu) (fun u hu => by cases hu) n0 n0 n0 rfl (fun i z o hz ho => ?_) (by omega) (by omega) (by decide) (by decide) (by decide) (by decide)).mono ?_
  · match i, hz, ho with
    | 0, hz, ho =>
      simp only [zq2, List.getElem?_cons_zero, Option.some.injEq] at hz ho
      subst hz ho
      exact ⟨rfl, h1, fun c h => by simp at h, erq_one, by decide⟩
    | 1, hz, ho =>
      simp only [zq2, List.getElem?_cons_succ, List.getElem?_cons_zero, Option.some.injEq] at hz ho
      subst hz ho
      exact ⟨rfl, h2, fun c h => by simp at h, erq_one, by decide⟩
    | i + 2, hz, _ => simp [zq2] at hz
  · rintro e w' ⟨rv2, zv2, lv2, sv2, E, CZ, CL, rfl, hE, hn, hz, hl, hk⟩
    have hCL : CL = [] := List.length_eq_zero_iff.1 hl.len
    subst hCL
    unfold zq2 at hE
    match E, hE, hn, hz, hk with
    | [(q1, o1), (q2, o2)], hE, hn, hz, hk =>
      simp only [List.map_cons, List.map_nil, List.cons.injEq, and_true] at hE
      obtain ⟨rfl, rfl⟩ := hE
      have e1 := hn _ (List.mem_cons_self ..)
      have e2 := hn _ (List.mem_cons_of_mem _ (List.mem_cons_self ..))
      dsimp only at e1 e2
      have hC := ex_two (Q := [o1, o2]) (fun o ho => by
        simp only [List.mem_cons, List.not_mem_nil, or_false] at ho
        rcases ho with rfl | rfl
        · exact e1
        · exact e2) hz
      subst hC
      obtain ⟨n1, a1, m1, k1⟩ := o1
      obtain ⟨n2, a2, m2, k2⟩ := o2
      dsimp only at e1 e2
      subst e1 e2
      have r5 := SlV.of_own (hk.row 5 rfl)
      have r4 := SlV.of_own (hk.row 4 rfl)
      have x5 : m1 = 1 := by
        obtain ⟨a, c, e, _, _⟩ := r5.slA
        unfold eraR at e
        simp only [Value.slice.injEq] at e
        exact e.2.1
      have x4 : m2 = 2 := by
        obtain ⟨a, c, e, _, _⟩ := r4.slA
        unfold eraR at e
        simp only [Value.slice.injEq] at e
        exact e.2.1
      subst x5 x4
      exact ⟨_, rfl, ⟨rv2, zv2, lv2, sv2, a1, a2, k1, k2, rfl, SlV.of_own (hk.row 3 rfl), SlV.of_own (hk.row 1 rfl), r5, r4, SlV.of_own (hk.row 0 rfl), SlV.of_own (hk.row 2 rfl)⟩, hk.below⟩
end Go.Proofs.YtnffecoohkanhaaGreatDoor.Px
