/- Sources without rules, eras and shifts in memory, and one of two zones with eras: what the examples of chapter 35 are made of. The examples of chapter 35 hold: analemmalaw35.works. -/
import Derived.Test.YtnffecoohkanhaaDoorM7
import Derived.Test.YtnffecoohkanhaaDoorM13
import Derived.Test.YtnffecoohkanhaaDoorM11
import Derived.Deep.DeepCutAuto
namespace Go.Proofs.YtnffecoohkanhaaDoor.Px
open Go.RowKit
open Go.Maps (Keyed)
open Lk St

/-- a source without rules, eras and shifts -/
def SrcQ (w : World) (v : Value) (zs : List (List UInt8)) (P : List (List UInt8 × List UInt8)) : Prop :=
  ∃ (rv zv lv sv : Value) (Q : List Zo), v = .agg #[rv, zv, lv, sv] ∧ znames Q = zs ∧ (∀ o ∈ Q, o.2.2.1 = 0 ∧ SlV w (.slice o.2.1 0 o.2.2.2) 13 0 []) ∧ SlV w rv 11 0 [] ∧ ZoV w zv Q ∧ LkV w lv P ∧ SlV w sv 1 0 []
theorem SrcQ.keep {w w' : World} {v : Value} {zs : List (List UInt8)} {P : List (List UInt8 × List UInt8)} (h : SrcQ w v zs P) (hB : Below w.heap.size w w') : SrcQ w' v zs P := by
  obtain ⟨rv, zv, lv, sv, Q, h1, h2, h3, h4, h5, h6, h7⟩ := h
  exact ⟨rv, zv, lv, sv, Q, h1, h2, fun o ho => ⟨(h3 o ho).1, (h3 o ho).2.keep hB⟩, h4.keep hB, h5.keep hB, h6.keep hB, h7.keep hB⟩
theorem srcQ_of {w : World} {zv lv : Value} {zs : List (List UInt8)} {P : List (List UInt8 × List UInt8)} (h : SrcV w zv lv (zos zs) P) : SrcQ w (.agg #[.slice none 0 0, zv, lv, .slice none 0 0]) zs P :=
  ⟨_, _, _, _, zos zs, rfl, zos_names zs, fun o ho => by
    obtain ⟨x, _, rfl⟩ := List.mem_map.1 ho
    exact ⟨rfl, SlV.nil w 13⟩, SlV.nil w 11, h.zo, h.lk, SlV.nil w 1⟩
theorem same_srcq {W : World} {v v' : Value} {zs : List (List UInt8)} {P : List (List UInt8 × List UInt8)} (h : SrcQ W v zs P) (h' : SrcQ W v' zs P) :
    Calls Tryd.prog 16 #[v, v'] W fun e w' => e = .returned (.bool true) ∧ Below W.heap.size W w' := by
  obtain ⟨rv, zv, lv, sv, Q, rfl, h2, h3, h4, h5, h6, h7⟩ := h
  obtain ⟨rv', zv', lv', sv', Q', rfl, h2', h3', h4', h5', h6', h7'⟩ := h'
  have hl : Q.length = Q'.length := by
    have e1 := congrArg List.length h2
    have e2 := congrArg List.length h2'
    rw [znames_len] at e1 e2
    omega
  refine same_any rv zv lv sv rv' zv' lv' sv' [] Q Q' P [] W h4 h4' h5 h5' hl (fun i p q hp hq => ?_) h6 h6' h7 h7'
  have e1 := znames_at hp
  have e2 := znames_at hq
  rw [h2] at e1
  rw [h2', e1] at e2
  obtain ⟨a1, a2⟩ := h3 p (List.mem_of_getElem? hp)
  obtain ⟨b1, b2⟩ := h3' q (List.mem_of_getElem? hq)
  exact ⟨by simpa using e2, [], a1, b1, a2, b2⟩
theorem eras_nil {L : List (Nat × Obj)} {R : List Rw} {W X : World} {E : List (Zq × Zo)} {zs : List (List UInt8)} (h : Kp L (R ++ E.reverse.map eraR) W X) (hE : E.map Prod.fst = zs.map zq1) : ∀ o ∈ E.map Prod.snd, o.2.2.1 = 0 ∧ SlV X (.slice o.2.1 0 o.2.2.2) 13 0 [] := by
  intro o ho
  have h0 := eras_none h hE o ho
  refine ⟨h0, ?_⟩
  obtain ⟨p, hp, rfl⟩ := List.mem_map.1 ho
  have hm : p.1.m = 0 ∧ p.1.ys = [] := by
    have h1 : p.1 ∈ zs.map zq1 := by rw [← hE]; exact List.mem_map.2 ⟨p, hp, rfl⟩
    obtain ⟨x, _, e⟩ := List.mem_map.1 h1
    rw [← e]
    exact ⟨rfl, rfl⟩
  have hr := h.own (eraR p) (List.mem_append_right _ (List.mem_map.2 ⟨p, List.mem_reverse.2 hp, rfl⟩))
  have hs := SlV.of_own hr
  unfold eraR at hs
  dsimp only at hs
  rw [h0, hm.1, hm.2] at hs
  exact hs
set_option maxRecDepth 100000 in
theorem links35_q (zv lv : Value) (zs : List (List UInt8)) (P : List (List UInt8 × List UInt8)) (W : World) (hs : SrcV W zv lv (zos zs) P) (h0 : 0 < P.length) (h1 : P.length ≤ 1000) (h2 : zs.length ≤ 1000) (hck : checkL zs P zoneOk = ((0, 0), 0)) :
    Calls Tryd.prog 14 #[.agg #[.slice none 0 0, zv, lv, .slice none 0 0]] W fun e w' => ∃ v, e = .returned (.tuple #[v, .int .i64 0]) ∧ SrcQ w' v zs (flatL zs P) ∧ (∃ ra rc za zc la lc sa sc, v = .agg #[.slice ra 0 rc, .slice za zs.length zc, .slice la P.length lc, .slice sa 0 sc]) ∧ Below W.heap.size W w' := by
  have hzl : (zos zs).length = zs.length := by unfold zos; rw [List.length_map]
  refine (links35_ok (.slice none 0 0) zv lv (.slice none 0 0) 0 0 [] [] (zs.map zq1) (zos zs) P W (SlV.nil W 11) hs.zo hs.lk (SlV.nil W 1) (fun u hu => by cases hu) (fun u hu => by cases hu) (fun c h => by simp only [Value.slice.injEq] at h; exact h.2.2.symm) (some_of hs.lk h0) (fun c h => by simp only [Value.slice.injEq] at h; exact h.2.2.symm)
    (by rw [hzl, List.length_map]) (zq1_ok W zs) (by omega) (by omega) (by omega) (by rw [List.length_map]; omega) hs (by rw [zos_names]; exact hck) (by rw [hzl]; omega)).mono ?_
  rintro e w' ⟨rv2, zv2, lv2, sv2, E, rfl, hE, hn, hk⟩
  rw [zos_names] at hk
  have hlen : (E.map Prod.snd).length = (zs.map zq1).length := by rw [← hE, List.length_map, List.length_map]
  have hr3 := SlV.of_own (hk.row 3 rfl)
  have hr2 := SlV.of_own (hk.row 2 rfl)
  have hr1 := SlV.of_own (hk.row 1 rfl)
  have hr0 := SlV.of_own (hk.row 0 rfl)
  obtain ⟨ra, rc, e3, _, _⟩ := hr3.slA
  obtain ⟨sa, sc, e2, _, _⟩ := hr2.slA
  obtain ⟨za, zc, e1, _, _⟩ := hr1.slA
  obtain ⟨la, lc, e0, _, _⟩ := hr0.slA
  rw [List.length_map] at e1
  refine ⟨_, rfl, ⟨rv2, zv2, lv2, sv2, E.map Prod.snd, rfl, names_of_copy hE hn, eras_nil (R := [_, _, _, _]) hk hE, hr3, ?_, ?_, hr2⟩, ⟨ra, rc, za, zc, la, lc, sa, sc, by dsimp only at e3 e2 e1 e0; rw [e3, e2, e1, e0]⟩, hk.below⟩
  · unfold ZoV
    rw [hlen]
    exact hr1
  · unfold LkV
    rw [flatL_len]
    exact hr0
set_option maxRecDepth 100000 in
theorem sort35_q (zv lv : Value) (zs : List (List UInt8)) (P : List (List UInt8 × List UInt8)) (W : World) (hs : SrcV W zv lv (zos zs) P) (hln : ∀ c, lv = .slice none P.length c → c = 0) (h1 : P.length < 20) (h2 : zs.length < 20) :
    Calls Tryd.prog 17 #[.agg #[.slice none 0 0, zv, lv, .slice none 0 0]] W fun e w' => ∃ (v : Value) (Q2 CZ : List Zo) (CL : List (List UInt8 × List UInt8)), e = .returned v ∧ znames Q2 = zs ∧ Stb (rkN Q2) Q2 CZ ∧ Stb (rkN P) P CL ∧ SrcQ w' v (znames CZ) CL ∧ (∃ ra rc za zc la lc sa sc, v = .agg #[.slice ra 0 rc, .slice za zs.length zc, .slice la P.length lc, .slice sa 0 sc]) ∧ Below W.heap.size W w' := by
  have hzl : (zos zs).length = zs.length := by unfold zos; rw [List.length_map]
  refine (sort35_any (.slice none 0 0) zv lv (.slice none 0 0) 0 0 [] [] (zs.map zq1) (zos zs) P W (SlV.nil W 11) hs.zo hs.lk (SlV.nil W 1) (fun u hu => by cases hu) (fun u hu => by cases hu) (fun c h => by simp only [Value.slice.injEq] at h; exact h.2.2.symm) hln (fun c h => by simp only [Value.slice.injEq] at h; exact h.2.2.symm)
    (by rw [hzl, List.length_map]) (zq1_ok W zs) (by omega) (by omega) (by omega) (by rw [List.length_map]; omega) (by rw [List.length_map]; omega) h1).mono ?_
  rintro e w' ⟨rv2, zv2, lv2, sv2, E, CZ, CL, rfl, hE, hn, hz, hl, hk⟩
  have hlen : CZ.length = (zs.map zq1).length := by rw [hz.len, ← hE, List.length_map, List.length_map]
  have hr3 := SlV.of_own (hk.row 3 rfl)
  have hr2 := SlV.of_own (hk.row 2 rfl)
  have hr1 := SlV.of_own (hk.row 1 rfl)
  have hr0 := SlV.of_own (hk.row 0 rfl)
  obtain ⟨ra, rc, e3, _, _⟩ := hr3.slA
  obtain ⟨sa, sc, e2, _, _⟩ := hr2.slA
  obtain ⟨za, zc, e1, _, _⟩ := hr1.slA
  obtain ⟨la, lc, e0, _, _⟩ := hr0.slA
  rw [List.length_map] at e1
  refine ⟨_, E.map Prod.snd, CZ, CL, rfl, names_of_copy hE hn, hz, hl, ⟨rv2, zv2, lv2, sv2, CZ, rfl, rfl, fun o ho => eras_nil (R := [_, _, _, _]) hk hE o ((hz.mem o).1 ho), hr3, ?_, ?_, hr2⟩, ⟨ra, rc, za, zc, la, lc, sa, sc, by dsimp only at e3 e2 e1 e0; rw [e3, e2, e1, e0]⟩, hk.below⟩
  · unfold ZoV
    rw [hlen]
    exact hr1
  · unfold LkV
    rw [hl.len]
    exact hr0

set_option maxRecDepth 100000 in
theorem links35_badn (zv lv : Value) (zs : List (List UInt8)) (P : List (List UInt8 × List UInt8)) (W : World) (hs : SrcV W zv lv (zos zs) P) (hln : ∀ c, lv = .slice none P.length c → c = 0) (h1 : P.length ≤ 1000) (h2 : zs.length ≤ 1000) (er : Int) (he : (checkL zs P zoneOk).2 = er) (her : er ≠ 0) :
    Calls Tryd.prog 14 #[.agg #[.slice none 0 0, zv, lv, .slice none 0 0]] W fun e w' => e = .returned (.tuple #[.agg #[.slice none 0 0, .slice none 0 0, .slice none 0 0, .slice none 0 0], .int .i64 er]) ∧ Below W.heap.size W w' := by
  have hzl : (zos zs).length = zs.length := by unfold zos; rw [List.length_map]
  exact links35_no (.slice none 0 0) zv lv (.slice none 0 0) 0 0 [] [] (zs.map zq1) (zos zs) P W (SlV.nil W 11) hs.zo hs.lk (SlV.nil W 1) (fun u hu => by cases hu) (fun u hu => by cases hu) (fun c h => by simp only [Value.slice.injEq] at h; exact h.2.2.symm) hln (fun c h => by simp only [Value.slice.injEq] at h; exact h.2.2.symm)
    (by rw [hzl, List.length_map]) (zq1_ok W zs) (by omega) (by omega) (by omega) (by rw [List.length_map]; omega) hs er (by rw [zos_names]; exact he) her (by rw [hzl]; omega)
theorem own_hln {W : World} {B : Nat} {e : TypeId} {sz n : Nat} {v : Value} {xs : List Value} (h : W.ownsRow B e sz v n xs) : ∀ c, v = .slice none n c → c = 0 := by
  intro c hc
  rcases own_cells h with ⟨h0, hv⟩ | ⟨g, cap, hv, _⟩
  · rw [hv] at hc
    simp only [Value.slice.injEq] at hc
    exact hc.2.2.symm
  · rw [hv] at hc
    simp at hc
/-- an era of nothing -/
def er0 : ErQ := ⟨0, 0, 0, ⟨#[]⟩, ⟨#[]⟩, false, 0, 0, 0, 0, 0, 0, 0⟩
/-- two zones of one name, with an era and with two -/
def TwoV (w : World) (v : Value) : Prop :=
  ∃ (rv zv lv sv : Value) (a1 a2 : Option Addr) (c1 c2 : Nat), v = .agg #[rv, zv, lv, sv] ∧ SlV w rv 11 0 [] ∧ ZoV w zv [([65], (a1, 1, c1)), ([65], (a2, 2, c2))] ∧ SlV w (.slice a1 1 c1) 13 1 ([er0].flatMap erqC) ∧ SlV w (.slice a2 2 c2) 13 2 ([er0, er0].flatMap erqC) ∧ LkV w lv [] ∧ SlV w sv 1 0 []
theorem TwoV.keep {w w' : World} {v : Value} (h : TwoV w v) (hB : Below w.heap.size w w') : TwoV w' v := by
  obtain ⟨rv, zv, lv, sv, a1, a2, c1, c2, h1, h2, h3, h4, h5, h6, h7⟩ := h
  exact ⟨rv, zv, lv, sv, a1, a2, c1, c2, h1, h2.keep hB, h3.keep hB, h4.keep hB, h5.keep hB, h6.keep hB, h7.keep hB⟩
theorem same_two {W : World} {v v' : Value} (h : TwoV W v) (h' : TwoV W v') :
    Calls Tryd.prog 16 #[v, v'] W fun e w' => e = .returned (.bool true) ∧ Below W.heap.size W w' := by
  obtain ⟨rv, zv, lv, sv, a1, a2, c1, c2, rfl, h2, h3, h4, h5, h6, h7⟩ := h
  obtain ⟨rv', zv', lv', sv', a1', a2', c1', c2', rfl, h2', h3', h4', h5', h6', h7'⟩ := h'
  refine same_any rv zv lv sv rv' zv' lv' sv' [] _ _ [] [] W h2 h2' h3 h3' rfl (fun i p q hp hq => ?_) h6 h6' h7 h7'
  match i, hp, hq with
  | 0, hp, hq =>
    simp only [List.getElem?_cons_zero, Option.some.injEq] at hp hq
    subst hp hq
    exact ⟨rfl, [er0], rfl, rfl, h4, h4'⟩
  | 1, hp, hq =>
    simp only [List.getElem?_cons_succ, List.getElem?_cons_zero, Option.some.injEq] at hp hq
    subst hp hq
    exact ⟨rfl, [er0, er0], rfl, rfl, h5, h5'⟩
  | i + 2, hp, _ => simp at hp
def zq2 : List Zq := [⟨[65], 1, [er0].flatMap erqC⟩, ⟨[65], 2, [er0, er0].flatMap erqC⟩]
set_option maxRecDepth 100000 in
theorem sort35_two (zv : Value) (b1 b2 c1 c2 : Nat) (W : World) (hz : ZoV W zv [([65], (some ⟨b1, 0, none⟩, 1, c1)), ([65], (some ⟨b2, 0, none⟩, 2, c2))]) (h1 : SlV W (.slice (some ⟨b1, 0, none⟩) 1 c1) 13 1 ([er0].flatMap erqC)) (h2 : SlV W (.slice (some ⟨b2, 0, none⟩) 2 c2) 13 2 ([er0, er0].flatMap erqC)) :
    Calls Tryd.prog 17 #[.agg #[.slice none 0 0, zv, .slice none 0 0, .slice none 0 0]] W fun e w' => ∃ v, e = .returned v ∧ TwoV w' v ∧ Below W.heap.size W w' := by
  have n0 : ∀ c : Nat, (.slice none 0 0 : Value) = .slice none 0 c → c = 0 := fun c h => by simp only [Value.slice.injEq] at h; exact h.2.2.symm
  refine (sort35_any (.slice none 0 0) zv (.slice none 0 0) (.slice none 0 0) 0 0 [] [] zq2 _ [] W (SlV.nil W 11) hz (SlV.nil W 2) (SlV.nil W 1) (fun u hu => by cases hu) (fun u hu => by cases hu) n0 n0 n0 rfl (fun i z o hz ho => ?_) (by omega) (by omega) (by decide) (by decide) (by decide) (by decide)).mono ?_
  · match i, hz, ho with
    | 0, hz, ho =>
      simp only [zq2, List.getElem?_cons_zero, Option.some.injEq] at hz ho
      subst hz ho
      exact ⟨rfl, h1, fun c h => by simp at h, erq_one, by decide⟩
    | 1, hz, ho =>
      simp only [zq2, List.getElem?_cons_succ, List.getElem?_cons_zero, Option.some.injEq] at hz ho
      subst hz ho
      exact ⟨rfl, h2, fun c h => by simp at h, erq_one, by decide⟩
    | i + 2, hz, _ => simp [zq2] at hz
  · rintro e w' ⟨rv2, zv2, lv2, sv2, E, CZ, CL, rfl, hE, hn, hz, hl, hk⟩
    have hCL : CL = [] := List.length_eq_zero_iff.1 hl.len
    subst hCL
    unfold zq2 at hE
    match E, hE, hn, hz, hk with
    | [(q1, o1), (q2, o2)], hE, hn, hz, hk =>
      simp only [List.map_cons, List.map_nil, List.cons.injEq, and_true] at hE
      obtain ⟨rfl, rfl⟩ := hE
      have e1 := hn _ (List.mem_cons_self ..)
      have e2 := hn _ (List.mem_cons_of_mem _ (List.mem_cons_self ..))
      dsimp only at e1 e2
      have hC := ex_two (Q := [o1, o2]) (fun o ho => by
        simp only [List.mem_cons, List.not_mem_nil, or_false] at ho
        rcases ho with rfl | rfl
        · exact e1
        · exact e2) hz
      subst hC
      obtain ⟨n1, a1, m1, k1⟩ := o1
      obtain ⟨n2, a2, m2, k2⟩ := o2
      dsimp only at e1 e2
      subst e1 e2
      have r5 := SlV.of_own (hk.row 5 rfl)
      have r4 := SlV.of_own (hk.row 4 rfl)
      have x5 : m1 = 1 := by
        obtain ⟨a, c, e, _, _⟩ := r5.slA
        unfold eraR at e
        simp only [Value.slice.injEq] at e
        exact e.2.1
      have x4 : m2 = 2 := by
        obtain ⟨a, c, e, _, _⟩ := r4.slA
        unfold eraR at e
        simp only [Value.slice.injEq] at e
        exact e.2.1
      subst x5 x4
      exact ⟨_, rfl, ⟨rv2, zv2, lv2, sv2, a1, a2, k1, k2, rfl, SlV.of_own (hk.row 3 rfl), SlV.of_own (hk.row 1 rfl), r5, r4, SlV.of_own (hk.row 0 rfl), SlV.of_own (hk.row 2 rfl)⟩, hk.below⟩
end Go.Proofs.YtnffecoohkanhaaDoor.Px
namespace Go.Proofs.YtnffecoohkanhaaDoor.Px
open Go.RowKit
open Go.Maps (Keyed)
open Lk

/-- what region 5 leaves -/
def TwoW (Y : World) (v8 : Value) (wx : World) : Prop := ∃ b z b1 b2 : Nat, v8 = .pointer (some ⟨b, 0, none⟩) ∧ wx.heap[b]? = some (.cells #[.slice none 0 0, .slice (some ⟨z, 0, none⟩) 2 2, .slice none 0 0, .slice none 0 0] 27 (0, 0)) ∧
  wx.heap[z]? = some (.cells #[.string ⟨#[65]⟩, .slice (some ⟨b1, 0, none⟩) 1 1, .string ⟨#[65]⟩, .slice (some ⟨b2, 0, none⟩) 2 2] 40 (0, 0)) ∧
  wx.heap[b1]? = some (.cells #[.int .i64 0, .int .i64 0, .int .i64 0, .string ⟨#[]⟩, .string ⟨#[]⟩, .bool false, .int .i64 0, .int .i64 0, .int .i64 0, .int .i64 0, .int .i64 0, .int .i64 0, .int .i64 0] 81 (0, 0)) ∧ wx.heap[b2]? = some (.cells #[.int .i64 0, .int .i64 0, .int .i64 0, .string ⟨#[]⟩, .string ⟨#[]⟩, .bool false, .int .i64 0, .int .i64 0, .int .i64 0, .int .i64 0, .int .i64 0, .int .i64 0, .int .i64 0, .int .i64 0, .int .i64 0, .int .i64 0, .string ⟨#[]⟩, .string ⟨#[]⟩, .bool false, .int .i64 0, .int .i64 0, .int .i64 0, .int .i64 0, .int .i64 0, .int .i64 0, .int .i64 0] 81 (0, 0)) ∧ Below Y.heap.size Y wx
theorem two_of {Y : World} {v : Value} {o0 o1 o2 o3 : Obj} (h : ∀ wx : World, wx.heap[Y.heap.size]? = some o0 → wx.heap[Y.heap.size + 1]? = some o1 → wx.heap[Y.heap.size + 1 + 1]? = some o2 → wx.heap[Y.heap.size + 1 + 1 + 1]? = some o3 → Below Y.heap.size Y wx → TwoW Y v wx) :
    TwoW Y v ((((Y.alloc o0).alloc o1).alloc o2).alloc o3).drew := by
  have k := (((((Kp.start Y).allocAt Y.heap.size rfl o0).allocAt (Y.heap.size + 1) (by rw [World.size_alloc]) o1).allocAt (Y.heap.size + 1 + 1) (by rw [World.size_alloc, World.size_alloc]) o2).allocAt (Y.heap.size + 1 + 1 + 1) (by rw [World.size_alloc, World.size_alloc, World.size_alloc]) o3).drew
  exact h _ (k.at 3 rfl) (k.at 2 rfl) (k.at 1 rfl) (k.at 0 rfl) k.below
theorem two_mk {w : World} {z b1 b2 : Nat} (hz : ZoV w (.slice (some ⟨z, 0, none⟩) 2 2) [([65], (some ⟨b1, 0, none⟩, 1, 1)), ([65], (some ⟨b2, 0, none⟩, 2, 2))]) (h1 : SlV w (.slice (some ⟨b1, 0, none⟩) 1 1) 13 1 ([er0].flatMap erqC)) (h2 : SlV w (.slice (some ⟨b2, 0, none⟩) 2 2) 13 2 ([er0, er0].flatMap erqC)) : TwoV w (.agg #[.slice none 0 0, .slice (some ⟨z, 0, none⟩) 2 2, .slice none 0 0, .slice none 0 0]) :=
  ⟨_, _, _, _, _, _, _, _, rfl, SlV.nil w 11, hz, h1, h2, SlV.nil w 2, SlV.nil w 1⟩
def exF : List (List UInt8 × List UInt8) := [([68], [65]), ([69], [65]), ([67], [66])]
def exS : List (List UInt8 × List UInt8) := [([67], [66]), ([68], [65]), ([69], [68])]
/-- what a slot of the last region holds -/
inductive Kd where
  | eq (v : Value)
  | strs (l : List (List UInt8))
  | src (zs : List (List UInt8)) (P : List (List UInt8 × List UInt8))
  | two
def Kd.S : Kd → World → Value → Prop
  | .eq u, _, v => v = u
  | .strs l, w, v => SlV w v 1 l.length (l.map svv)
  | .src zs P, w, v => SrcQ w v zs P
  | .two, w, v => TwoV w v
theorem Kd.keep {w w' : World} (hB : Below w.heap.size w w') : ∀ (k : Kd) (v : Value), k.S w v → k.S w' v
  | .eq _, _, h => h
  | .strs _, _, h => SlV.keep h hB
  | .src _ _, _, h => SrcQ.keep h hB
  | .two, _, h => TwoV.keep h hB
def kds35 (a1 aT : Value) : List Kd := [
  .src exZ exF,
  .strs [[66], [65]],
  .strs [[68], [65], [69], [65], [67], [66]],
  .src exZ exF,
  .eq (.bool true),
  .eq (.bool true),
  .eq (.int .i64 0),
  .eq (.bool true),
  .eq (.bool true),
  .eq (.bool true),
  .eq (.int .i64 11),
  .eq (.bool true),
  .eq (.bool true),
  .eq (.bool true),
  .eq (.int .i64 9),
  .eq (.bool true),
  .eq (.bool true),
  .eq (.bool true),
  .eq a1,
  .src [[65], [66]] exS,
  .strs [[65], [66]],
  .strs [[67], [66], [68], [65], [69], [68]],
  .src [[65], [66]] exS,
  .eq (.bool true),
  .eq (.bool true),
  .eq (.bool true),
  .eq aT,
  .two,
  .eq aT,
  .eq (.bool true),
  .eq (.bool true)]
def s35 (a1 aT : Value) (d : Nat) (w : World) (v : Value) : Prop := if d = 0 then v = .bool true else Kd.S ((kds35 a1 aT).getD (d - 37) (.eq undef)) w v
theorem s35_keep {a1 aT : Value} {d : Nat} {w w' : World} {v : Value} (h : s35 a1 aT d w v) (hB : Below w.heap.size w w') : s35 a1 aT d w' v := by
  unfold s35 at h ⊢
  split
  · rename_i h0
    rw [if_pos h0] at h
    exact h
  · rename_i h0
    rw [if_neg h0] at h
    exact Kd.keep hB _ _ h
def isT (d : Nat) : Bool := d == 42 || d == 46 || d == 50 || d == 54 || d == 62
theorem isT_s {a1 aT : Value} {d : Nat} (h : isT d = true) (w : World) (v : Value) (hs : s35 a1 aT d w v) : v = .bool true := by
  unfold isT at h
  simp only [Bool.or_eq_true, beq_iff_eq] at h
  rcases h with (((rfl | rfl) | rfl) | rfl) | rfl <;> exact hs
def guardsT (ops : Array Oper) : Bool := ops.toList.all fun o => match o.guard with | none => true | some (j, b) => b && (match (ops[j]?).bind (·.dst) with | some d => isT d | none => true)
theorem guardsT_ok {a1 aT : Value} {ops : Array Oper} (h : guardsT ops = true) : ∀ (i : Nat) (o : Oper) (j : Nat) (b : Bool) (d : Nat), ops[i]? = some o → o.guard = some (j, b) → (ops[j]?).bind (·.dst) = some d → ∀ w v, s35 a1 aT d w v → v = .bool b := by
  intro i o j b d ho hg hd w v hs
  unfold guardsT at h
  have := List.all_eq_true.1 h o (Array.mem_toList_iff.2 (Array.mem_of_getElem? ho))
  rw [hg] at this
  simp only [Bool.and_eq_true] at this
  rw [hd] at this
  obtain ⟨rfl, h2⟩ := this
  exact isT_s h2 w v hs
set_option maxHeartbeats 8000000 in
set_option maxRecDepth 100000 in
theorem works35_any (W : World) : Calls Tryd.prog 9 #[] W fun e w' => e = .returned (.bool true) ∧ Below W.heap.size W w' := by
  have K0 := Lib.hid (Kp.start W)
  go_enter Tryd.func9, Tryd.ntmps9
  go_upto_region 3 with (first
    | (go_at_call 27; have gg := K0.out; clear gg; refine (of35_ex W).mono ?_; rintro e X1 ⟨zv, lv, rfl, hs, hb⟩; obtain ⟨za, zc, ez, _, _⟩ := hs.zo.slA; obtain ⟨la, lc, el, _, _⟩ := hs.lk.slA; obtain rfl : zv = .slice za 2 zc := ez; obtain rfl : lv = .slice la 3 lc := el; have HSrc := Lib.hid hs; have K1 := Lib.hid ((K0.out.keep hb).allocAt X1.heap.size rfl (.cells #[.slice none 0 0, .slice za 2 zc, .slice la 3 lc, .slice none 0 0] 27)); have B1 := Lib.hid ((Below.refl _ X1).alloc (Nat.le_refl _) (.cells #[.slice none 0 0, .slice za 2 zc, .slice la 3 lc, .slice none 0 0] 27)); obtain ⟨ya0, ya1, ya2, ya3⟩ := row4 (K1.out.at 0 rfl); clear hb hs K0)
    | (go_at_call 14; have gg := K1.out; clear gg; refine (links35_q (.slice za 2 zc) (.slice la 3 lc) exZ exP _ (HSrc.out.keep B1.out) (by decide) (by decide) (by decide) ex_check).mono ?_; rintro e X2 ⟨v2, rfl, hq, ⟨ra2, rc2, za2, zc2, la2, lc2, sa2, sc2, ev⟩, hb⟩; obtain rfl : v2 = .agg #[.slice ra2 0 rc2, .slice za2 2 zc2, .slice la2 3 lc2, .slice sa2 0 sc2] := ev; have HFl := Lib.hid hq; have K2 := Lib.hid ((K1.out.keep hb).allocAt X2.heap.size rfl (.cells #[.slice ra2 0 rc2, .slice za2 2 zc2, .slice la2 3 lc2, .slice sa2 0 sc2] 27)); have B2 := Lib.hid ((B1.out.trans (hb.mono B1.out.size)).alloc (by have := B1.out.size; have := hb.size; omega) (.cells #[.slice ra2 0 rc2, .slice za2 2 zc2, .slice la2 3 lc2, .slice sa2 0 sc2] 27)); have D2 := Lib.hid ((Below.refl _ X2).alloc (Nat.le_refl _) (.cells #[.slice ra2 0 rc2, .slice za2 2 zc2, .slice la2 3 lc2, .slice sa2 0 sc2] 27)); clear hb hq K1 B1 ya0 ya1 ya2 ya3))
  obtain ⟨Y2, hY2⟩ : ∃ Y, X2.alloc (.cells #[.slice ra2 0 rc2, .slice za2 2 zc2, .slice la2 3 lc2, .slice sa2 0 sc2] 27) = Y := ⟨_, rfl⟩
  rw [hY2] at K2 B2 D2 ⊢
  clear hY2
  go_upto_region 4 with (first
    | (go_at_call 27; have gg := K2.out; clear gg; refine (of35_loop Y2).mono ?_; rintro e X3 ⟨zv, lv, rfl, hs, hb⟩; obtain ⟨za3, zc3, ez, _, _⟩ := hs.zo.slA; obtain ⟨la3, lc3, el, _, _⟩ := hs.lk.slA; obtain rfl : zv = .slice za3 2 zc3 := ez; obtain rfl : lv = .slice la3 3 lc3 := el; have K3 := Lib.hid (K2.out.keep hb); have HS3 := Lib.hid hs; have B3 := Lib.hid (B2.out.trans (hb.mono B2.out.size)); have D3 := Lib.hid (D2.out.trans (hb.mono D2.out.size)); clear hb hs K2 B2 D2)
    | (go_at_call 14; have gg := K3.out; clear gg; refine (links35_bad (.slice za3 2 zc3) (.slice la3 3 lc3) [[66], [65]] [([68], [65]), ([69], [69]), ([67], [66])] _ HS3.out (by decide) (by decide) (by decide) 11 ex_loop (by decide)).mono ?_; rintro e X4 ⟨rfl, hb⟩; have B4 := Lib.hid ((B3.out.trans (hb.mono B3.out.size)).alloc (by have := B3.out.size; have := hb.size; omega) (.cells #[.slice none 0 0, .slice none 0 0, .slice none 0 0, .slice none 0 0] 27)); have D4 := Lib.hid ((D3.out.trans (hb.mono D3.out.size)).alloc (by have := D3.out.size; have := hb.size; omega) (.cells #[.slice none 0 0, .slice none 0 0, .slice none 0 0, .slice none 0 0] 27)); have K4 := Lib.hid ((K3.out.keep hb).alloc (.cells #[.slice none 0 0, .slice none 0 0, .slice none 0 0, .slice none 0 0] 27)).drop; clear hb K3 B3 D3 HS3))
  obtain ⟨Y4, hY4⟩ : ∃ Y, X4.alloc (.cells #[.slice none 0 0, .slice none 0 0, .slice none 0 0, .slice none 0 0] 27) = Y := ⟨_, rfl⟩
  rw [hY4] at K4 B4 D4 ⊢
  clear hY4
  go_upto_region 5 with (first
    | (go_at_call 27; have gg := K4.out; clear gg; refine (of35_none Y4).mono ?_; rintro e X5 ⟨zv, lv, rfl, hs, hb⟩; obtain ⟨za5, zc5, ez, _, _⟩ := hs.zo.slA; obtain ⟨la5, lc5, el, _, _⟩ := hs.lk.slA; obtain rfl : zv = .slice za5 2 zc5 := ez; obtain rfl : lv = .slice la5 3 lc5 := el; have K5 := Lib.hid (K4.out.keep hb); have HS5 := Lib.hid hs; have B5 := Lib.hid (B4.out.trans (hb.mono B4.out.size)); have D5 := Lib.hid (D4.out.trans (hb.mono D4.out.size)); clear hb hs K4 B4 D4)
    | (go_at_call 14; have gg := K5.out; clear gg; refine (links35_bad (.slice za5 2 zc5) (.slice la5 3 lc5) [[66], [65]] [([68], [65]), ([69], [88]), ([67], [66])] _ HS5.out (by decide) (by decide) (by decide) 9 ex_none (by decide)).mono ?_; rintro e X6 ⟨rfl, hb⟩; have B6 := Lib.hid ((B5.out.trans (hb.mono B5.out.size)).alloc (by have := B5.out.size; have := hb.size; omega) (.cells #[.slice none 0 0, .slice none 0 0, .slice none 0 0, .slice none 0 0] 27)); have D6 := Lib.hid ((D5.out.trans (hb.mono D5.out.size)).alloc (by have := D5.out.size; have := hb.size; omega) (.cells #[.slice none 0 0, .slice none 0 0, .slice none 0 0, .slice none 0 0] 27)); have K6 := Lib.hid ((K5.out.keep hb).alloc (.cells #[.slice none 0 0, .slice none 0 0, .slice none 0 0, .slice none 0 0] 27)).drop; clear hb K5 B5 D5 HS5))
  obtain ⟨Y6, hY6⟩ : ∃ Y, X6.alloc (.cells #[.slice none 0 0, .slice none 0 0, .slice none 0 0, .slice none 0 0] 27) = Y := ⟨_, rfl⟩
  rw [hY6] at K6 B6 D6 ⊢
  clear hY6
  have hmk1 : ∀ w : World, (Instr.makeSlice 38 (.int .i64 1) (.int .i64 1)).run Tryd.prog w = .ok (.slice (some ⟨w.heap.size, 0, none⟩) 1 1) (w.alloc (.cells #[.int .i64 0, .int .i64 0, .int .i64 0, .string ⟨#[]⟩, .string ⟨#[]⟩, .bool false, .int .i64 0, .int .i64 0, .int .i64 0, .int .i64 0, .int .i64 0, .int .i64 0, .int .i64 0] 81)) := fun _ => by kernel_rfl
  have hmk2 : ∀ w : World, (Instr.makeSlice 38 (.int .i64 2) (.int .i64 2)).run Tryd.prog w = .ok (.slice (some ⟨w.heap.size, 0, none⟩) 2 2) (w.alloc (.cells #[.int .i64 0, .int .i64 0, .int .i64 0, .string ⟨#[]⟩, .string ⟨#[]⟩, .bool false, .int .i64 0, .int .i64 0, .int .i64 0, .int .i64 0, .int .i64 0, .int .i64 0, .int .i64 0, .int .i64 0, .int .i64 0, .int .i64 0, .string ⟨#[]⟩, .string ⟨#[]⟩, .bool false, .int .i64 0, .int .i64 0, .int .i64 0, .int .i64 0, .int .i64 0, .int .i64 0, .int .i64 0] 81)) := fun _ => by kernel_rfl
  go_cut [8] (fun v8 wx => TwoW Y6 v8 wx)
  case first =>
    go_region
    all_goals
      go_wp2_with fail
      go_meet
      refine two_of fun wx f0 f1 f2 f3 fb => ?_
      first
        | exact ⟨_, _, _, _, rfl, f3, f2, f0, f1, fb⟩
        | exact ⟨_, _, _, _, rfl, f3, f2, f1, f0, fb⟩
        | exact ⟨_, _, _, _, rfl, f2, f3, f0, f1, fb⟩
        | exact ⟨_, _, _, _, rfl, f2, f3, f1, f0, fb⟩
        | exact ⟨_, _, _, _, rfl, f1, f3, f0, f2, fb⟩
        | exact ⟨_, _, _, _, rfl, f1, f3, f2, f0, fb⟩
        | exact ⟨_, _, _, _, rfl, f0, f3, f1, f2, fb⟩
        | exact ⟨_, _, _, _, rfl, f0, f3, f2, f1, fb⟩
  case rest =>
    obtain ⟨b, z, b1, b2, rfl, hsrc, hzo, he1, he2, hb⟩ := hcut
    have K8 := Lib.hid (K6.out.keep hb)
    have HB8 := Lib.hid (HSrc.out.keep (B6.out.trans (hb.mono B6.out.size)))
    have hfl := HFl.out.keep (D6.out.trans (hb.mono D6.out.size))
    rw [ex_flat] at hfl
    have HFq := Lib.hid hfl
    have HS8 := Lib.hid hsrc
    have hZ := SlV.of_block (sz := 2) hzo (Nat.le_refl 2) (by unfold maxLen; omega) (Nat.le_refl 4)
    have hE1 := SlV.of_block (sz := 13) he1 (Nat.le_refl 1) (by unfold maxLen; omega) (by decide)
    have hE2 := SlV.of_block (sz := 13) he2 (Nat.le_refl 2) (by unfold maxLen; omega) (by decide)
    have HZ := Lib.hid (show ZoV _ (.slice (some ⟨z, 0, none⟩) 2 2) [([65], (some ⟨b1, 0, none⟩, 1, 1)), ([65], (some ⟨b2, 0, none⟩, 2, 2))] from hZ)
    have HE1 := Lib.hid (show SlV _ (.slice (some ⟨b1, 0, none⟩) 1 1) 13 1 ([er0].flatMap erqC) from hE1)
    have HE2 := Lib.hid (show SlV _ (.slice (some ⟨b2, 0, none⟩) 2 2) 13 2 ([er0, er0].flatMap erqC) from hE2)
    clear hb K6 B6 D6 HSrc HFl hfl hsrc hzo he1 he2 hZ hE1 hE2 hmk1 hmk2
    go_upto_region 6 with fail
    obtain ⟨p1, hp1⟩ : ∃ p, X1.heap.size = p := ⟨_, rfl⟩
    obtain ⟨p2, hp2⟩ : ∃ p, X2.heap.size = p := ⟨_, rfl⟩
    rw [hp1, hp2] at K8
    rw [hp1, hp2]
    clear hp1 hp2
    refine wp_region_steps (by kernel_rfl) (s35 (.agg #[.slice none 0 0, .slice za 2 zc, .slice la 3 lc, .slice none 0 0]) (.agg #[.slice none 0 0, .slice (some ⟨z, 0, none⟩) 2 2, .slice none 0 0, .slice none 0 0])) (by kernel_rfl) (guardsT_ok (by kernel_rfl)) (fun d w w' v h hB => s35_keep h hB) ?steps ?hend
    case steps =>
      refine steps_cons 37 rfl ?_ ?_
      · intro T D w hB0 hold hdep K hK0
        have hK := Lib.hid hK0
        have h2 : T[2]?.getD undef = .pointer (some ⟨p2, 0, none⟩) := hold 2 rfl
        clear hold hdep hK0
        obtain ⟨c0, c1, c2, c3⟩ := row4 ((K8.out.keep hB0).at 0 rfl)
        go_simp
        exact hK.out _ _ (Below.refl _ _) (HFq.out.keep hB0)
      refine steps_cons 38 rfl ?_ ?_
      · intro T D w hB0 hold hdep K hK0
        have hK := Lib.hid hK0
        clear hold hdep hK0
        go_simp
        exact hK.out _ _ ((Below.refl _ w).alloc (Nat.le_refl _) _) (slv_lit [[66], [65]] w (by decide))
      refine steps_cons 39 rfl ?_ ?_
      · intro T D w hB0 hold hdep K hK0
        have hK := Lib.hid hK0
        clear hold hdep hK0
        go_simp
        exact hK.out _ _ ((Below.refl _ w).alloc (Nat.le_refl _) _) (slv_lit [[68], [65], [69], [65], [67], [66]] w (by decide))
      refine steps_cons 40 rfl ?_ ?_
      · intro T D w hB0 hold hdep K hK0
        have hK := Lib.hid hK0
        have q38 : SlV w (T[38]?.getD undef) 1 2 (([[66], [65]] : List (List UInt8)).map svv) := dep hdep 1 (by kernel_rfl) rfl rfl
        have q39 : SlV w (T[39]?.getD undef) 1 6 ((flatP exF).map svv) := dep hdep 2 (by kernel_rfl) rfl rfl
        clear hold hdep hK0
        obtain ⟨va, hva⟩ : ∃ v, T[38]?.getD undef = v := ⟨_, rfl⟩
        obtain ⟨vb, hvb⟩ : ∃ v, T[39]?.getD undef = v := ⟨_, rfl⟩
        rw [hva] at q38
        rw [hvb] at q39
        have H1 := Lib.hid q38
        have H2 := Lib.hid q39
        clear q38 q39
        go_simp
        refine (of_any [[66], [65]] exF va vb w H1.out H2.out (by decide) (by decide) (by decide) (by decide)).mono ?_
        rintro _ V ⟨zv, lv, rfl, hs, hb⟩
        exact hK.out _ _ hb (srcQ_of hs)
      refine steps_cons 41 rfl ?_ ?_
      · intro T D w hB0 hold hdep K hK0
        have hK := Lib.hid hK0
        have q37 : Kd.S (.src exZ exF) w (T[37]?.getD undef) := dep hdep 0 (by kernel_rfl) rfl rfl
        have q40 : Kd.S (.src exZ exF) w (T[40]?.getD undef) := dep hdep 3 (by kernel_rfl) rfl rfl
        clear hold hdep hK0
        have H1 := Lib.hid q37
        have H2 := Lib.hid q40
        clear q37 q40
        go_simp
        refine (same_srcq H1.out H2.out).mono ?_
        rintro _ V ⟨rfl, hb⟩
        exact hK.out _ _ hb rfl
      refine steps_cons 42 rfl ?_ ?_
      · intro T D w hB0 hold hdep K hK0
        have hK := Lib.hid hK0
        have q41 : T[41]?.getD undef = .bool true := dep hdep 4 (by kernel_rfl) rfl rfl
        clear hold hdep hK0
        go_simp
        exact hK.out _ _ (Below.refl _ _) rfl
      refine steps_cons 43 rfl ?_ ?_
      · intro T D w hB0 hold hdep K hK0
        have hK := Lib.hid hK0
        have h3 : T[3]?.getD undef = .int .i64 0 := hold 3 rfl
        clear hold hdep hK0
        go_simp
        exact hK.out _ _ (Below.refl _ _) rfl
      refine steps_cons 44 rfl ?_ ?_
      · intro T D w hB0 hold hdep K hK0
        have hK := Lib.hid hK0
        have q43 : T[43]?.getD undef = .int .i64 0 := dep hdep 6 (by kernel_rfl) rfl rfl
        clear hold hdep hK0
        go_simp
        exact hK.out _ _ (Below.refl _ _) rfl
      refine steps_cons 45 rfl ?_ ?_
      · intro T D w hB0 hold hdep K hK0
        have hK := Lib.hid hK0
        have q42 : T[42]?.getD undef = .bool true := dep hdep 5 (by kernel_rfl) rfl rfl
        have q44 : T[44]?.getD undef = .bool true := dep hdep 7 (by kernel_rfl) rfl rfl
        clear hold hdep hK0
        go_simp
        exact hK.out _ _ (Below.refl _ _) rfl
      refine steps_cons 46 rfl ?_ ?_
      · intro T D w hB0 hold hdep K hK0
        have hK := Lib.hid hK0
        have q45 : T[45]?.getD undef = .bool true := dep hdep 8 (by kernel_rfl) rfl rfl
        clear hold hdep hK0
        go_simp
        exact hK.out _ _ (Below.refl _ _) rfl
      refine steps_cons 47 rfl ?_ ?_
      · intro T D w hB0 hold hdep K hK0
        have hK := Lib.hid hK0
        have h5 : T[5]?.getD undef = .int .i64 11 := hold 5 rfl
        clear hold hdep hK0
        go_simp
        exact hK.out _ _ (Below.refl _ _) rfl
      refine steps_cons 48 rfl ?_ ?_
      · intro T D w hB0 hold hdep K hK0
        have hK := Lib.hid hK0
        have q47 : T[47]?.getD undef = .int .i64 11 := dep hdep 10 (by kernel_rfl) rfl rfl
        clear hold hdep hK0
        go_simp
        exact hK.out _ _ (Below.refl _ _) rfl
      refine steps_cons 49 rfl ?_ ?_
      · intro T D w hB0 hold hdep K hK0
        have hK := Lib.hid hK0
        have q46 : T[46]?.getD undef = .bool true := dep hdep 9 (by kernel_rfl) rfl rfl
        have q48 : T[48]?.getD undef = .bool true := dep hdep 11 (by kernel_rfl) rfl rfl
        clear hold hdep hK0
        go_simp
        exact hK.out _ _ (Below.refl _ _) rfl
      refine steps_cons 50 rfl ?_ ?_
      · intro T D w hB0 hold hdep K hK0
        have hK := Lib.hid hK0
        have q49 : T[49]?.getD undef = .bool true := dep hdep 12 (by kernel_rfl) rfl rfl
        clear hold hdep hK0
        go_simp
        exact hK.out _ _ (Below.refl _ _) rfl
      refine steps_cons 51 rfl ?_ ?_
      · intro T D w hB0 hold hdep K hK0
        have hK := Lib.hid hK0
        have h7 : T[7]?.getD undef = .int .i64 9 := hold 7 rfl
        clear hold hdep hK0
        go_simp
        exact hK.out _ _ (Below.refl _ _) rfl
      refine steps_cons 52 rfl ?_ ?_
      · intro T D w hB0 hold hdep K hK0
        have hK := Lib.hid hK0
        have q51 : T[51]?.getD undef = .int .i64 9 := dep hdep 14 (by kernel_rfl) rfl rfl
        clear hold hdep hK0
        go_simp
        exact hK.out _ _ (Below.refl _ _) rfl
      refine steps_cons 53 rfl ?_ ?_
      · intro T D w hB0 hold hdep K hK0
        have hK := Lib.hid hK0
        have q50 : T[50]?.getD undef = .bool true := dep hdep 13 (by kernel_rfl) rfl rfl
        have q52 : T[52]?.getD undef = .bool true := dep hdep 15 (by kernel_rfl) rfl rfl
        clear hold hdep hK0
        go_simp
        exact hK.out _ _ (Below.refl _ _) rfl
      refine steps_cons 54 rfl ?_ ?_
      · intro T D w hB0 hold hdep K hK0
        have hK := Lib.hid hK0
        have q53 : T[53]?.getD undef = .bool true := dep hdep 16 (by kernel_rfl) rfl rfl
        clear hold hdep hK0
        go_simp
        exact hK.out _ _ (Below.refl _ _) rfl
      refine steps_cons 55 rfl ?_ ?_
      · intro T D w hB0 hold hdep K hK0
        have hK := Lib.hid hK0
        have h1 : T[1]?.getD undef = .pointer (some ⟨p1, 0, none⟩) := hold 1 rfl
        clear hold hdep hK0
        obtain ⟨c0, c1, c2, c3⟩ := row4 ((K8.out.keep hB0).at 1 rfl)
        go_simp
        exact hK.out _ _ (Below.refl _ _) rfl
      refine steps_cons 56 rfl ?_ ?_
      · intro T D w hB0 hold hdep K hK0
        have hK := Lib.hid hK0
        have q55 : T[55]?.getD undef = .agg #[.slice none 0 0, .slice za 2 zc, .slice la 3 lc, .slice none 0 0] := dep hdep 18 (by kernel_rfl) rfl rfl
        clear hold hdep hK0
        go_simp
        refine (sort35_q (.slice za 2 zc) (.slice la 3 lc) exZ exP w (HB8.out.keep hB0) (some_of (HB8.out.keep hB0).lk (by decide)) (by decide) (by decide)).mono ?_
        rintro _ V ⟨v, Q2, CZ, CL, rfl, hn, hz, hl, hs, _, hb⟩
        rw [ex_sorted hl, (ex_zones hn hz).1] at hs
        exact hK.out _ _ hb hs
      refine steps_cons 57 rfl ?_ ?_
      · intro T D w hB0 hold hdep K hK0
        have hK := Lib.hid hK0
        clear hold hdep hK0
        go_simp
        exact hK.out _ _ ((Below.refl _ w).alloc (Nat.le_refl _) _) (slv_lit [[65], [66]] w (by decide))
      refine steps_cons 58 rfl ?_ ?_
      · intro T D w hB0 hold hdep K hK0
        have hK := Lib.hid hK0
        clear hold hdep hK0
        go_simp
        exact hK.out _ _ ((Below.refl _ w).alloc (Nat.le_refl _) _) (slv_lit [[67], [66], [68], [65], [69], [68]] w (by decide))
      refine steps_cons 59 rfl ?_ ?_
      · intro T D w hB0 hold hdep K hK0
        have hK := Lib.hid hK0
        have q57 : SlV w (T[57]?.getD undef) 1 2 (([[65], [66]] : List (List UInt8)).map svv) := dep hdep 20 (by kernel_rfl) rfl rfl
        have q58 : SlV w (T[58]?.getD undef) 1 6 ((flatP exS).map svv) := dep hdep 21 (by kernel_rfl) rfl rfl
        clear hold hdep hK0
        obtain ⟨va, hva⟩ : ∃ v, T[57]?.getD undef = v := ⟨_, rfl⟩
        obtain ⟨vb, hvb⟩ : ∃ v, T[58]?.getD undef = v := ⟨_, rfl⟩
        rw [hva] at q57
        rw [hvb] at q58
        have H1 := Lib.hid q57
        have H2 := Lib.hid q58
        clear q57 q58
        go_simp
        refine (of_any [[65], [66]] exS va vb w H1.out H2.out (by decide) (by decide) (by decide) (by decide)).mono ?_
        rintro _ V ⟨zv, lv, rfl, hs, hb⟩
        exact hK.out _ _ hb (srcQ_of hs)
      refine steps_cons 60 rfl ?_ ?_
      · intro T D w hB0 hold hdep K hK0
        have hK := Lib.hid hK0
        have q56 : Kd.S (.src [[65], [66]] exS) w (T[56]?.getD undef) := dep hdep 19 (by kernel_rfl) rfl rfl
        have q59 : Kd.S (.src [[65], [66]] exS) w (T[59]?.getD undef) := dep hdep 22 (by kernel_rfl) rfl rfl
        clear hold hdep hK0
        have H1 := Lib.hid q56
        have H2 := Lib.hid q59
        clear q56 q59
        go_simp
        refine (same_srcq H1.out H2.out).mono ?_
        rintro _ V ⟨rfl, hb⟩
        exact hK.out _ _ hb rfl
      refine steps_cons 61 rfl ?_ ?_
      · intro T D w hB0 hold hdep K hK0
        have hK := Lib.hid hK0
        have q54 : T[54]?.getD undef = .bool true := dep hdep 17 (by kernel_rfl) rfl rfl
        have q60 : T[60]?.getD undef = .bool true := dep hdep 23 (by kernel_rfl) rfl rfl
        clear hold hdep hK0
        go_simp
        exact hK.out _ _ (Below.refl _ _) rfl
      refine steps_cons 62 rfl ?_ ?_
      · intro T D w hB0 hold hdep K hK0
        have hK := Lib.hid hK0
        have q61 : T[61]?.getD undef = .bool true := dep hdep 24 (by kernel_rfl) rfl rfl
        clear hold hdep hK0
        go_simp
        exact hK.out _ _ (Below.refl _ _) rfl
      refine steps_cons 63 rfl ?_ ?_
      · intro T D w hB0 hold hdep K hK0
        have hK := Lib.hid hK0
        have h8 : T[8]?.getD undef = .pointer (some ⟨b, 0, none⟩) := hold 8 rfl
        clear hold hdep hK0
        obtain ⟨c0, c1, c2, c3⟩ := row4 ((hB0.block _ (lt_of_block HS8.out)).trans HS8.out)
        go_simp
        exact hK.out _ _ (Below.refl _ _) rfl
      refine steps_cons 64 rfl ?_ ?_
      · intro T D w hB0 hold hdep K hK0
        have hK := Lib.hid hK0
        have q63 : T[63]?.getD undef = .agg #[.slice none 0 0, .slice (some ⟨z, 0, none⟩) 2 2, .slice none 0 0, .slice none 0 0] := dep hdep 26 (by kernel_rfl) rfl rfl
        clear hold hdep hK0
        go_simp
        refine (sort35_two (.slice (some ⟨z, 0, none⟩) 2 2) b1 b2 1 2 w (HZ.out.keep hB0) (HE1.out.keep hB0) (HE2.out.keep hB0)).mono ?_
        rintro _ V ⟨v, rfl, ht, hb⟩
        exact hK.out _ _ hb ht
      refine steps_cons 65 rfl ?_ ?_
      · intro T D w hB0 hold hdep K hK0
        have hK := Lib.hid hK0
        have h8 : T[8]?.getD undef = .pointer (some ⟨b, 0, none⟩) := hold 8 rfl
        clear hold hdep hK0
        obtain ⟨c0, c1, c2, c3⟩ := row4 ((hB0.block _ (lt_of_block HS8.out)).trans HS8.out)
        go_simp
        exact hK.out _ _ (Below.refl _ _) rfl
      refine steps_cons 66 rfl ?_ ?_
      · intro T D w hB0 hold hdep K hK0
        have hK := Lib.hid hK0
        have q64 : Kd.S (.two) w (T[64]?.getD undef) := dep hdep 27 (by kernel_rfl) rfl rfl
        have q65 : T[65]?.getD undef = .agg #[.slice none 0 0, .slice (some ⟨z, 0, none⟩) 2 2, .slice none 0 0, .slice none 0 0] := dep hdep 28 (by kernel_rfl) rfl rfl
        clear hold hdep hK0
        have H1 := Lib.hid q64
        clear q64
        go_simp
        refine (same_two H1.out (two_mk (HZ.out.keep hB0) (HE1.out.keep hB0) (HE2.out.keep hB0))).mono ?_
        rintro _ V ⟨rfl, hb⟩
        exact hK.out _ _ hb rfl
      refine steps_cons 67 rfl ?_ ?_
      · intro T D w hB0 hold hdep K hK0
        have hK := Lib.hid hK0
        have q62 : T[62]?.getD undef = .bool true := dep hdep 25 (by kernel_rfl) rfl rfl
        have q66 : T[66]?.getD undef = .bool true := dep hdep 29 (by kernel_rfl) rfl rfl
        clear hold hdep hK0
        go_simp
        exact hK.out _ _ (Below.refl _ _) rfl
      refine steps_cons 0 rfl ?_ ?_
      · intro T D w hB0 hold hdep K hK0
        have hK := Lib.hid hK0
        have q67 : T[67]?.getD undef = .bool true := dep hdep 30 (by kernel_rfl) rfl rfl
        clear hold hdep hK0
        go_simp
        exact hK.out _ _ (Below.refl _ _) rfl
      exact steps_nil
    case hend =>
      intro T w hsz hB0 hold hS
      have e0 : T[0]?.getD undef = .bool true := hS 0 (by rfl)
      have K9 := Lib.hid (K8.out.keep hB0)
      obtain ⟨G, hG⟩ : ∃ G : Nat → Value, ∀ t, T[t]?.getD undef = G t := ⟨_, fun _ => rfl⟩
      have e := tmps_lit T 68 hsz
      simp only [hG] at e
      have e' : T = #[G 0, G 1, G 2, G 3, G 4, G 5, G 6, G 7, G 8, G 9, G 10, G 11, G 12, G 13, G 14, G 15, G 16, G 17, G 18, G 19, G 20, G 21, G 22, G 23, G 24, G 25, G 26, G 27, G 28, G 29, G 30, G 31, G 32, G 33, G 34, G 35, G 36, G 37, G 38, G 39, G 40, G 41, G 42, G 43, G 44, G 45, G 46, G 47, G 48, G 49, G 50, G 51, G 52, G 53, G 54, G 55, G 56, G 57, G 58, G 59, G 60, G 61, G 62, G 63, G 64, G 65, G 66, G 67] := e.trans rfl
      rw [hG] at e0
      clear hold hS e hG hsz hB0
      rw [e', e0]
      clear e' e0
      go_wp2_with fail
      go_ret
      exact ⟨rfl, K9.out.below⟩
end Go.Proofs.YtnffecoohkanhaaDoor.Px
