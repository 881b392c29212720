/- The law FlattenTells, walked. -/
import Derived.Test.YtnffecoohkanhaaDoorYFuQ
import Derived.Test.YtnffecoohkanhaaDoorYFtS
import Derived.Test.YtnffecoohkanhaaDoorM8
import Derived.Test.YtnffecoohkanhaaDoorYFtA
namespace Go.Proofs.YtnffecoohkanhaaDoor.Px
open Go.RowKit
open Go.Maps (Keyed)
open Lk St

/-- what a slot of region 3 holds: a value; a slice that is owned; a source of such; a new variable -/
inductive Kt where
  | eq (v : Value)
  | own (e : TypeId) (sz n : Nat) (xs : List Value)
  | four
  | new
def Kt.S (B N : Nat) (D : List RuQ) (Q : List Zo) (Ls : List (List UInt8 × List UInt8)) (Sh : List (List UInt8)) : Kt → World → Value → Prop
  | .eq u, _, v => v = u
  | .own e sz n xs, w, v => w.ownsRow B e sz v n xs
  | .four, w, v => ∃ (a b c d : Option Addr) (a' b' c' d' : Nat), v = .agg #[.slice a D.length a', .slice b Q.length b', .slice c Ls.length c', .slice d Sh.length d'] ∧ w.ownsRow B 36 11 (.slice a D.length a') D.length (D.flatMap ruqC) ∧ w.ownsRow B 40 2 (.slice b Q.length b') Q.length (Q.flatMap zcells) ∧
      w.ownsRow B 43 2 (.slice c Ls.length c') Ls.length (Ls.flatMap kcells) ∧ w.ownsRow B 9 1 (.slice d Sh.length d') Sh.length (Sh.map svv)
  | .new, w, v => ∃ b, v = .pointer (some ⟨b, 0, none⟩) ∧ w.heap[b]? = some (.cells #[.slice none 0 0, .slice none 0 0, .slice none 0 0, .slice none 0 0] 27 (0, 0)) ∧ N ≤ b
theorem Kt.keep {B N : Nat} {D : List RuQ} {Q : List Zo} {Ls : List (List UInt8 × List UInt8)} {Sh : List (List UInt8)} {w w' : World} (hB : Below w.heap.size w w') : ∀ (k : Kt) (v : Value), k.S B N D Q Ls Sh w v → k.S B N D Q Ls Sh w' v
  | .eq _, _, h => h
  | .own _ _ _ _, _, h => own_keepB h hB
  | .four, _, ⟨a, b, c, d, a', b', c', d', h0, h1, h2, h3, h4⟩ => ⟨a, b, c, d, a', b', c', d', h0, own_keepB h1 hB, own_keepB h2 hB, own_keepB h3 hB, own_keepB h4 hB⟩
  | .new, _, ⟨b, h1, h2, h3⟩ => ⟨b, h1, (hB.block b (lt_of_block h2)).trans h2, h3⟩
def kts (W : World) (ra za la sa : Option Addr) (nr rc nz zc nl lc ns sc : Nat) (D : List RuQ) (Q : List Zo) (Ls : List (List UInt8 × List UInt8)) (Sh : List (List UInt8)) : List Kt := [
  .eq (.pointer (some ⟨W.heap.size, 0, none⟩)),
  .eq (.slice ra nr rc),
  .own 36 11 nr (D.flatMap ruqC),
  .eq (.pointer (some ⟨W.heap.size, 1, none⟩)),
  .eq (.slice za nz zc),
  .own 40 2 nz (Q.flatMap zcells),
  .eq (.pointer (some ⟨W.heap.size, 2, none⟩)),
  .eq (.slice la nl lc),
  .own 43 2 nl (Ls.flatMap kcells),
  .eq (.pointer (some ⟨W.heap.size, 3, none⟩)),
  .eq (.slice sa ns sc),
  .own 9 1 ns (Sh.map svv),
  .four]
def sT (W : World) (N : Nat) (ra za la sa : Option Addr) (nr rc nz zc nl lc ns sc : Nat) (D : List RuQ) (Q : List Zo) (Ls : List (List UInt8 × List UInt8)) (Sh : List (List UInt8)) (d : Nat) (w : World) (v : Value) : Prop :=
  if d = 3 then Kt.S W.heap.size N D Q Ls Sh .new w v else Kt.S W.heap.size N D Q Ls Sh ((kts W ra za la sa nr rc nz zc nl lc ns sc D Q Ls Sh).getD (d - 12) (.eq undef)) w v
theorem sT_keep {W : World} {N : Nat} {ra za la sa : Option Addr} {nr rc nz zc nl lc ns sc : Nat} {D : List RuQ} {Q : List Zo} {Ls : List (List UInt8 × List UInt8)} {Sh : List (List UInt8)} {d : Nat} {w w' : World} {v : Value} (h : sT W N ra za la sa nr rc nz zc nl lc ns sc D Q Ls Sh d w v) (hB : Below w.heap.size w w') : sT W N ra za la sa nr rc nz zc nl lc ns sc D Q Ls Sh d w' v := by
  unfold sT at h ⊢
  split
  · rename_i h0; rw [if_pos h0] at h; exact Kt.keep hB _ _ h
  · rename_i h0; rw [if_neg h0] at h; exact Kt.keep hB _ _ h
inductive Kt6 where
  | eq (v : Value)
  | src (D : List RuQ) (T : List ZnT) (Ls : List (List UInt8 × List UInt8)) (Sh : List (List UInt8))
def Kt6.S : Kt6 → World → Value → Prop
  | .eq u, _, v => v = u
  | .src D T Ls Sh, w, v => SrcA w v D T Ls Sh
theorem Kt6.keep {w w' : World} (hB : Below w.heap.size w w') : ∀ (k : Kt6) (v : Value), k.S w v → k.S w' v
  | .eq _, _, h => h
  | .src _ _ _ _, _, h => SrcA.keep h hB
def kt6 (er : Int) (gv sv : Value) (D1 : List RuQ) (T1 : List ZnT) (L1 : List (List UInt8 × List UInt8)) (S1 : List (List UInt8)) (D : List RuQ) (CT : List ZnT) (CL : List (List UInt8 × List UInt8)) (Sh : List (List UInt8)) : List Kt6 := [
  .eq (.int .i64 er),
  .eq (.int .i64 er),
  .eq (.bool true),
  .eq (.bool true),
  .src D1 T1 L1 S1,
  .src D1 T1 L1 S1,
  .eq (.bool true),
  .eq (.bool true),
  .eq (.bool true),
  .eq gv,
  .src D CT CL Sh,
  .eq sv,
  .src D CT CL Sh,
  .eq (.bool true),
  .eq (.bool true),
  .eq (.bool true),
  .eq gv,
  .eq sv,
  .eq (.bool true),
  .eq (.bool true),
  .eq (.bool true),
  .eq (.bool true),
  .eq (.bool true)]
def s6 (er : Int) (gv sv : Value) (D1 : List RuQ) (T1 : List ZnT) (L1 : List (List UInt8 × List UInt8)) (S1 : List (List UInt8)) (D : List RuQ) (CT : List ZnT) (CL : List (List UInt8 × List UInt8)) (Sh : List (List UInt8)) (d : Nat) (w : World) (v : Value) : Prop :=
  if d = 2 then v = .bool true else Kt6.S ((kt6 er gv sv D1 T1 L1 S1 D CT CL Sh).getD (d - 35) (.eq undef)) w v
theorem s6_keep {er : Int} {gv sv : Value} {D1 : List RuQ} {T1 : List ZnT} {L1 : List (List UInt8 × List UInt8)} {S1 : List (List UInt8)} {D : List RuQ} {CT : List ZnT} {CL : List (List UInt8 × List UInt8)} {Sh : List (List UInt8)} {d : Nat} {w w' : World} {v : Value} (h : s6 er gv sv D1 T1 L1 S1 D CT CL Sh d w v) (hB : Below w.heap.size w w') : s6 er gv sv D1 T1 L1 S1 D CT CL Sh d w' v := by
  unfold s6 at h ⊢
  split
  · rename_i h0; rw [if_pos h0] at h; exact h
  · rename_i h0; rw [if_neg h0] at h; exact Kt6.keep hB _ _ h
def isT6 (d : Nat) : Bool := d == 38 || d == 43 || d == 50 || d == 55
def guards6 (ops : Array Oper) : Bool := ops.toList.all fun o => match o.guard with | none => true | some (j, b) => b && (match (ops[j]?).bind (·.dst) with | some d => isT6 d | none => true)
theorem guards6_ok {er : Int} {gv sv : Value} {D1 : List RuQ} {T1 : List ZnT} {L1 : List (List UInt8 × List UInt8)} {S1 : List (List UInt8)} {D : List RuQ} {CT : List ZnT} {CL : List (List UInt8 × List UInt8)} {Sh : List (List UInt8)} {ops : Array Oper} (h : guards6 ops = true) : ∀ (i : Nat) (o : Oper) (j : Nat) (b : Bool) (d : Nat), ops[i]? = some o → o.guard = some (j, b) → (ops[j]?).bind (·.dst) = some d → ∀ w v, s6 er gv sv D1 T1 L1 S1 D CT CL Sh d w v → v = .bool b := by
  intro i o j b d ho hg hd w v hs
  unfold guards6 at h
  have := List.all_eq_true.1 h o (Array.mem_toList_iff.2 (Array.mem_of_getElem? ho))
  rw [hg] at this
  simp only [Bool.and_eq_true] at this
  rw [hd] at this
  obtain ⟨rfl, h2⟩ := this
  unfold isT6 at h2
  simp only [Bool.or_eq_true, beq_iff_eq] at h2
  rcases h2 with ((rfl | rfl) | rfl) | rfl <;> exact hs
set_option maxHeartbeats 8000000 in
set_option maxRecDepth 100000 in
theorem tells35_any (rv zv lv sv : Value) (D : List RuQ) (Q : List Zo) (Ls : List (List UInt8 × List UInt8)) (Sh : List (List UInt8)) (W : World) (h : SrcT W rv zv lv sv D Q Ls Sh) :
    Calls Tryd.prog 3 #[.agg #[rv, zv, lv, sv]] W fun e w' => e = .returned (.bool true) ∧ Below W.heap.size W w' := by
  obtain ⟨T, hT⟩ := zt_ex Q h.er
  obtain ⟨CT, hCT⟩ := stb_ex T
  obtain ⟨CL, hCL⟩ := stb_ex Ls
  have HT := Lib.hid hT
  have HCT := Lib.hid hCT
  have HCL := Lib.hid hCL
  have HS := Lib.hid h
  have HPW := Lib.hid (show SrcP W rv zv lv sv D T Q Ls Sh from ⟨h.ru, h.src, h.sh, hT, fun o ho => (h.er o ho).2.1, h.rn, h.kn, h.hn⟩)
  have CFew := Lib.hid (fun (Y : World) (hB : Below W.heap.size W Y) => few35_any rv zv lv sv D.length Sh.length _ _ Q Ls Y (h.ru.keep hB) (h.src.keep hB).zo (h.src.keep hB).lk (h.sh.keep hB))
  have hrn := h.rn D.length; have hzn := h.zn Q.length; have hkn := h.kn Ls.length; have hsn := h.hn Sh.length
  have HNil := Lib.hid (And.intro hrn (And.intro hzn (And.intro hkn hsn)))
  obtain ⟨ra, rc, rfl, _, _⟩ := h.ru.slA
  obtain ⟨za, zc, rfl, _, _⟩ := SlV.slA h.src.zo
  obtain ⟨la, lc, rfl, _, _⟩ := SlV.slA h.src.lk
  obtain ⟨sa, sc, rfl, _, _⟩ := h.sh.slA
  obtain ⟨nr, hnr⟩ : ∃ n, D.length = n := ⟨_, rfl⟩
  obtain ⟨nz, hnz⟩ : ∃ n, Q.length = n := ⟨_, rfl⟩
  obtain ⟨nl, hnl⟩ : ∃ n, Ls.length = n := ⟨_, rfl⟩
  obtain ⟨ns, hns⟩ : ∃ n, Sh.length = n := ⟨_, rfl⟩
  have HN := Lib.hid (And.intro hnr (And.intro hnz (And.intro hnl hns)))
  rw [hnr, hnz, hnl, hns] at CFew HNil HPW
  rw [hnr, hnz, hnl, hns]
  have KB := Lib.hid ((Kp.start W).allocAt W.heap.size rfl (.cells #[.slice ra nr rc, .slice za nz zc, .slice la nl lc, .slice sa ns sc] 27))
  obtain ⟨W1, hW1⟩ : ∃ X, W.alloc (.cells #[.slice ra nr rc, .slice za nz zc, .slice la nl lc, .slice sa ns sc] 27) = X := ⟨_, rfl⟩
  rw [hW1] at KB
  obtain ⟨v0, v1, v2, v3⟩ := row4 (KB.out.at 0 rfl)
  clear h hT hCT hCL hrn hzn hkn hsn hnr hnz hnl hns
  go_enter Tryd.func3, Tryd.ntmps3
  go_wp2_with fail
  refine (CFew.out _ KB.out.below).mono ?_
  rintro e X ⟨r, rfl, hr, hb⟩
  have K1 := Lib.hid (KB.out.keep hb)
  have HRr := Lib.hid hr
  clear hb v0 v1 v2 v3 CFew hr hW1
  obtain ⟨v0, v1, v2, v3⟩ := row4 (K1.out.at 0 rfl)
  cases r with
  | false =>
    go_wp2_with (first
      | (go_at_call 9; refine (works35_any _).mono ?_; rintro e X2 ⟨rfl, hb⟩; have K2 := Lib.hid (K1.out.keep hb); clear hb)
      | go_in)
    refine bodyPost_ret (v := .bool true) (by simp [results, Tryd.results3, go_sem]) rfl ⟨rfl, K2.out.below⟩
  | true =>
    obtain ⟨f1, f2, f3, f4, f5⟩ := HRr.out rfl
    have HF := Lib.hid (show Few D T Ls Sh from ⟨by rw [HN.out.1]; omega, by rw [← HT.out.len, HN.out.2.1]; omega, by rw [HN.out.2.2.1]; omega, by rw [HN.out.2.2.2]; omega, fun p hp => by
      obtain ⟨i, hi⟩ := List.getElem?_of_mem hp
      obtain ⟨o, ho⟩ : ∃ o, Q[i]? = some o := ⟨_, List.getElem?_eq_getElem (by rw [HT.out.len]; exact (List.getElem?_eq_some_iff.1 hi).1)⟩
      have := (HT.out.2 i p o hi ho).1
      have := f5 o (List.mem_of_getElem? ho)
      omega⟩)
    have hl1 : D.length ≤ 1000000 := by rw [HN.out.1]; omega
    have hl2 : Q.length ≤ 1000000 := by rw [HN.out.2.1]; omega
    have hl3 : Ls.length ≤ 1000000 := by rw [HN.out.2.2.1]; omega
    have hl4 : Sh.length ≤ 1000000 := by rw [HN.out.2.2.2]; omega
    have CR := Lib.hid (fun (Y : World) (hB : Below W.heap.size W Y) => clone_rules nr (D.flatMap ruqC) (.slice ra nr rc) Y (by have := (HPW.out.keep hB).ru; rw [HN.out.1] at this; exact this) ruq_one HNil.out.1 (by rw [← HN.out.1]; exact hl1))
    have CZ := Lib.hid (fun (Y : World) (hB : Below W.heap.size W Y) => clone_zonesF nz (Q.flatMap zcells) (.slice za nz zc) Y (by have := (HPW.out.keep hB).src.zo; unfold ZoV at this; rw [HN.out.2.1] at this; exact this) (fun u hu => by obtain ⟨x, _, hx⟩ := List.mem_flatMap.1 hu; unfold zcells at hx; simp only [List.mem_cons, List.not_mem_nil, or_false] at hx; rcases hx with rfl | rfl <;> rfl) HNil.out.2.1 (by rw [← HN.out.2.1]; exact hl2))
    have CL' := Lib.hid (fun (Y : World) (hB : Below W.heap.size W Y) => clone_linksF nl (Ls.flatMap kcells) (.slice la nl lc) Y (by have := (HPW.out.keep hB).src.lk; unfold LkV at this; rw [HN.out.2.2.1] at this; exact this) (fun u hu => by obtain ⟨x, _, hx⟩ := List.mem_flatMap.1 hu; unfold kcells at hx; simp only [List.mem_cons, List.not_mem_nil, or_false] at hx; rcases hx with rfl | rfl <;> rfl) HNil.out.2.2.1 (by rw [← HN.out.2.2.1]; exact hl3))
    have CS := Lib.hid (fun (Y : World) (hB : Below W.heap.size W Y) => clone_strs ns (Sh.map svv) (.slice sa ns sc) Y (by have := (HPW.out.keep hB).sh; rw [HN.out.2.2.2] at this; exact this) (svv_one Sh) HNil.out.2.2.2 (by rw [← HN.out.2.2.2]; exact hl4))
    clear f1 f2 f3 f4 f5 hl1 hl2 hl3 hl4 HRr
    go_upto_region 3 with fail
    clear v0 v1 v2 v3
    refine Py.wp_region_steps_tail 14 (by kernel_rfl) (by kernel_rfl) (by kernel_rfl) (sT W X.heap.size ra za la sa nr rc nz zc nl lc ns sc D Q Ls Sh) (by kernel_rfl) (fun d w w' v h hB => sT_keep h hB) ?steps ?hend
    case steps =>
      refine Py.steps_cons 12 rfl ?_ ?_
      · intro T D' w hB0 hold hdep K hK0
        have hK := Lib.hid hK0
        have q1 : T[1]?.getD undef = .pointer (some ⟨W.heap.size, 0, none⟩) := hold 1 rfl
        clear hold hdep hK0
        go_simp
        exact hK.out _ _ (Below.refl _ _) rfl
      refine Py.steps_cons 13 rfl ?_ ?_
      · intro T D' w hB0 hold hdep K hK0
        have hK := Lib.hid hK0
        have q12 : T[12]?.getD undef = .pointer (some ⟨W.heap.size, 0, none⟩) := Py.dep hdep 0 (by kernel_rfl) rfl rfl
        clear hold hdep hK0
        obtain ⟨c0, c1, c2, c3⟩ := row4 ((K1.out.keep hB0).at 0 rfl)
        go_simp
        exact hK.out _ _ (Below.refl _ _) rfl
      refine Py.steps_cons 14 rfl ?_ ?_
      · intro T D' w hB0 hold hdep K hK0
        have hK := Lib.hid hK0
        have q13 : T[13]?.getD undef = .slice ra nr rc := Py.dep hdep 1 (by kernel_rfl) rfl rfl
        clear hold hdep hK0
        go_simp
        refine (CR.out _ (K1.out.keep hB0).below).mono ?_
        rintro _ V ⟨v, rfl, hk⟩
        exact hK.out _ _ hk.below (own_down (hk.row 0 rfl) (K1.out.keep hB0).below.size)
      refine Py.steps_cons 15 rfl ?_ ?_
      · intro T D' w hB0 hold hdep K hK0
        have hK := Lib.hid hK0
        have q1 : T[1]?.getD undef = .pointer (some ⟨W.heap.size, 0, none⟩) := hold 1 rfl
        clear hold hdep hK0
        go_simp
        exact hK.out _ _ (Below.refl _ _) rfl
      refine Py.steps_cons 16 rfl ?_ ?_
      · intro T D' w hB0 hold hdep K hK0
        have hK := Lib.hid hK0
        have q15 : T[15]?.getD undef = .pointer (some ⟨W.heap.size, 1, none⟩) := Py.dep hdep 3 (by kernel_rfl) rfl rfl
        clear hold hdep hK0
        obtain ⟨c0, c1, c2, c3⟩ := row4 ((K1.out.keep hB0).at 0 rfl)
        go_simp
        exact hK.out _ _ (Below.refl _ _) rfl
      refine Py.steps_cons 17 rfl ?_ ?_
      · intro T D' w hB0 hold hdep K hK0
        have hK := Lib.hid hK0
        have q16 : T[16]?.getD undef = .slice za nz zc := Py.dep hdep 4 (by kernel_rfl) rfl rfl
        clear hold hdep hK0
        go_simp
        refine (CZ.out _ (K1.out.keep hB0).below).mono ?_
        rintro _ V ⟨v, rfl, hk⟩
        exact hK.out _ _ hk.below (own_down (hk.row 0 rfl) (K1.out.keep hB0).below.size)
      refine Py.steps_cons 18 rfl ?_ ?_
      · intro T D' w hB0 hold hdep K hK0
        have hK := Lib.hid hK0
        have q1 : T[1]?.getD undef = .pointer (some ⟨W.heap.size, 0, none⟩) := hold 1 rfl
        clear hold hdep hK0
        go_simp
        exact hK.out _ _ (Below.refl _ _) rfl
      refine Py.steps_cons 19 rfl ?_ ?_
      · intro T D' w hB0 hold hdep K hK0
        have hK := Lib.hid hK0
        have q18 : T[18]?.getD undef = .pointer (some ⟨W.heap.size, 2, none⟩) := Py.dep hdep 6 (by kernel_rfl) rfl rfl
        clear hold hdep hK0
        obtain ⟨c0, c1, c2, c3⟩ := row4 ((K1.out.keep hB0).at 0 rfl)
        go_simp
        exact hK.out _ _ (Below.refl _ _) rfl
      refine Py.steps_cons 20 rfl ?_ ?_
      · intro T D' w hB0 hold hdep K hK0
        have hK := Lib.hid hK0
        have q19 : T[19]?.getD undef = .slice la nl lc := Py.dep hdep 7 (by kernel_rfl) rfl rfl
        clear hold hdep hK0
        go_simp
        refine (CL'.out _ (K1.out.keep hB0).below).mono ?_
        rintro _ V ⟨v, rfl, hk⟩
        exact hK.out _ _ hk.below (own_down (hk.row 0 rfl) (K1.out.keep hB0).below.size)
      refine Py.steps_cons 21 rfl ?_ ?_
      · intro T D' w hB0 hold hdep K hK0
        have hK := Lib.hid hK0
        have q1 : T[1]?.getD undef = .pointer (some ⟨W.heap.size, 0, none⟩) := hold 1 rfl
        clear hold hdep hK0
        go_simp
        exact hK.out _ _ (Below.refl _ _) rfl
      refine Py.steps_cons 22 rfl ?_ ?_
      · intro T D' w hB0 hold hdep K hK0
        have hK := Lib.hid hK0
        have q21 : T[21]?.getD undef = .pointer (some ⟨W.heap.size, 3, none⟩) := Py.dep hdep 9 (by kernel_rfl) rfl rfl
        clear hold hdep hK0
        obtain ⟨c0, c1, c2, c3⟩ := row4 ((K1.out.keep hB0).at 0 rfl)
        go_simp
        exact hK.out _ _ (Below.refl _ _) rfl
      refine Py.steps_cons 23 rfl ?_ ?_
      · intro T D' w hB0 hold hdep K hK0
        have hK := Lib.hid hK0
        have q22 : T[22]?.getD undef = .slice sa ns sc := Py.dep hdep 10 (by kernel_rfl) rfl rfl
        clear hold hdep hK0
        go_simp
        refine (CS.out _ (K1.out.keep hB0).below).mono ?_
        rintro _ V ⟨v, rfl, hk⟩
        exact hK.out _ _ hk.below (own_down (hk.row 0 rfl) (K1.out.keep hB0).below.size)
      refine Py.steps_cons 24 rfl ?_ ?_
      · intro T D' w hB0 hold hdep K hK0
        have hK := Lib.hid hK0
        have q14 : Kt.S W.heap.size X.heap.size D Q Ls Sh (.own 36 11 nr (D.flatMap ruqC)) w (T[14]?.getD undef) := Py.dep hdep 2 (by kernel_rfl) rfl rfl
        have q17 : Kt.S W.heap.size X.heap.size D Q Ls Sh (.own 40 2 nz (Q.flatMap zcells)) w (T[17]?.getD undef) := Py.dep hdep 5 (by kernel_rfl) rfl rfl
        have q20 : Kt.S W.heap.size X.heap.size D Q Ls Sh (.own 43 2 nl (Ls.flatMap kcells)) w (T[20]?.getD undef) := Py.dep hdep 8 (by kernel_rfl) rfl rfl
        have q23 : Kt.S W.heap.size X.heap.size D Q Ls Sh (.own 9 1 ns (Sh.map svv)) w (T[23]?.getD undef) := Py.dep hdep 11 (by kernel_rfl) rfl rfl
        clear hold hdep hK0
        obtain ⟨a, a', e14⟩ := own_slice q14
        rw [e14] at q14
        have H14 := Lib.hid q14
        clear q14
        obtain ⟨b, b', e17⟩ := own_slice q17
        rw [e17] at q17
        have H17 := Lib.hid q17
        clear q17
        obtain ⟨c, c', e20⟩ := own_slice q20
        rw [e20] at q20
        have H20 := Lib.hid q20
        clear q20
        obtain ⟨d, d', e23⟩ := own_slice q23
        rw [e23] at q23
        have H23 := Lib.hid q23
        clear q23
        go_simp
        exact hK.out _ _ (Below.refl _ _) ⟨_, _, _, _, _, _, _, _, by rw [HN.out.1, HN.out.2.1, HN.out.2.2.1, HN.out.2.2.2], by rw [HN.out.1]; exact H14.out, by rw [HN.out.2.1]; exact H17.out, by rw [HN.out.2.2.1]; exact H20.out, by rw [HN.out.2.2.2]; exact H23.out⟩
      refine Py.steps_cons 3 rfl ?_ ?_
      · intro T D' w hB0 hold hdep K hK0
        have hK := Lib.hid hK0
        clear hold hdep hK0
        have hw := hB0.size
        go_simp
        exact hK.out _ _ ((Below.refl _ w).alloc (Nat.le_refl _) _) ⟨w.heap.size, rfl, ((Kp.start w).alloc (.cells #[.slice none 0 0, .slice none 0 0, .slice none 0 0, .slice none 0 0] 27)).at 0 rfl, hw⟩
      exact Py.steps_nil
    case hend =>
      intro T' w hsz hB0 hold hS
      obtain ⟨b, e3, hbk, hbW⟩ := (show Kt.S W.heap.size X.heap.size D Q Ls Sh .new w (T'[3]?.getD undef) from hS 3 (by rfl))
      obtain ⟨ga, ha, ia, ja, gc, hc, ic, jc, e24, o1, o2, o3, o4⟩ := (show Kt.S W.heap.size X.heap.size D Q Ls Sh .four w (T'[24]?.getD undef) from hS 24 (by rfl))
      rw [HN.out.1, HN.out.2.1, HN.out.2.2.1, HN.out.2.2.2] at e24
      rw [HN.out.1] at o1
      rw [HN.out.2.1] at o2
      rw [HN.out.2.2.1] at o3
      rw [HN.out.2.2.2] at o4
      have HB1 := Lib.hid (K1.out.keep hB0).below
      have hkp := kp_types2 (R := [⟨.slice ga nr gc, 36, 11, nr, D.flatMap ruqC⟩, ⟨.slice ha nz hc, 40, 2, nz, Q.flatMap zcells⟩, ⟨.slice ia nl ic, 43, 2, nl, Ls.flatMap kcells⟩, ⟨.slice ja ns jc, 9, 1, ns, Sh.map svv⟩]) HB1.out hbk ((K1.out.keep hB0).at 0 rfl) (Nat.le_refl _) (Nat.lt_of_lt_of_le (K1.out.lt 0 rfl) hbW) (fun r hr => by
        simp only [List.mem_cons, List.not_mem_nil, or_false] at hr
        rcases hr with rfl | rfl | rfl | rfl
        · exact o1
        · exact o2
        · exact o3
        · exact o4) (fun r hr => by
        simp only [List.mem_cons, List.not_mem_nil, or_false] at hr
        rcases hr with rfl | rfl | rfl | rfl <;> (dsimp only; decide)) (by
        simp only [List.pairwise_cons, List.mem_cons, List.not_mem_nil, or_false, List.Pairwise.nil, and_true]
        refine ⟨fun s hs => ?_, fun s hs => ?_, fun s hs => ?_, fun s hs => hs.elim⟩
        · rcases hs with rfl | rfl | rfl <;> (dsimp only; decide)
        · rcases hs with rfl | rfl <;> (dsimp only; decide)
        · rcases hs with rfl <;> (dsimp only; decide))
      have K2 := Lib.hid hkp
      have KX := Lib.hid (K1.out.keep hB0)
      obtain ⟨G, hG⟩ : ∃ G : Nat → Value, ∀ t, T'[t]?.getD undef = G t := ⟨_, fun _ => rfl⟩
      have e' := Py.tmps_mix [12, 13, 14, 15, 16, 17, 18, 19, 20, 21, 22, 23, 24, 3] (by kernel_rfl) hsz hold
      simp only [List.foldl_cons, List.foldl_nil, hG, List.setIfInBounds_toArray, List.set_cons_zero, List.set_cons_succ] at e'
      rw [hG] at e3 e24
      rw [e', e3, e24]
      clear e' e3 e24 hold hS hG hsz hB0 hkp o1 o2 o3 o4 hbk
      obtain ⟨y0, y1, y2, y3⟩ := row4 (K2.out.at 0 rfl)
      have y4 := free_at (K2.out.at 0 rfl) 0
      have y5 := free_at (K2.out.at 0 rfl) 1
      have y6 := free_at (K2.out.at 0 rfl) 2
      have y7 := free_at (K2.out.at 0 rfl) 3
      simp only [List.drop_succ_cons, List.drop_zero, Py.TailWp]
      go_simp
      have K3 := Lib.hid ((((K2.out.set 0 rfl 0 (.slice ga nr gc) rfl).set 0 rfl 1 (.slice ha nz hc) rfl).set 0 rfl 2 (.slice ia nl ic) rfl).set 0 rfl 3 (.slice ja ns jc) rfl)
      clear y0 y1 y2 y3 y4 y5 y6 y7 K2 KX CR CZ CL' CS
      obtain ⟨w3, hw3⟩ : ∃ X, (((w.setCell ⟨b, 0, none⟩ (.slice ga nr gc)).setCell ⟨b, 1, none⟩ (.slice ha nz hc)).setCell ⟨b, 2, none⟩ (.slice ia nl ic)).setCell ⟨b, 3, none⟩ (.slice ja ns jc) = X := ⟨_, rfl⟩
      rw [hw3] at K3 ⊢
      clear hw3
      have HP3 := HPW.out.keep K3.out.below
      have HG := Lib.hid (show SrcP w3 (.slice ga nr gc) (.slice ha nz hc) (.slice ia nl ic) (.slice ja ns jc) D T Q Ls Sh from ⟨by rw [HN.out.1]; exact SlV.of_own (K3.out.row 0 rfl), ⟨by unfold ZoV; rw [HN.out.2.1]; exact SlV.of_own (K3.out.row 1 rfl), by unfold LkV; rw [HN.out.2.2.1]; exact SlV.of_own (K3.out.row 2 rfl), HP3.src.zn, HP3.src.ln⟩, by rw [HN.out.2.2.2]; exact SlV.of_own (K3.out.row 3 rfl), HP3.zt, HP3.er,
        fun n c e => by have h0 := e; simp only [Value.slice.injEq] at h0; obtain ⟨rfl, rfl, rfl⟩ := h0; exact own_hln (K3.out.row 0 rfl) _ rfl, fun n c e => by have h0 := e; simp only [Value.slice.injEq] at h0; obtain ⟨rfl, rfl, rfl⟩ := h0; exact own_hln (K3.out.row 2 rfl) _ rfl, fun n c e => by have h0 := e; simp only [Value.slice.injEq] at h0; obtain ⟨rfl, rfl, rfl⟩ := h0; exact own_hln (K3.out.row 3 rfl) _ rfl⟩)
      have HP := Lib.hid HP3
      clear HP3
      obtain ⟨er, D1, T1, L1, S1, qa, qb, qc, qd, hl1, hl2⟩ := links_both D T Q Ls Sh HF.out
      have CL1 := Lib.hid (hl1 w3 _ _ _ _ HG.out)
      have CL2 := Lib.hid (fun (Y : World) (hB : Below w3.heap.size w3 Y) => hl2 Y _ _ _ _ (HP.out.keep hB))
      clear hl1 hl2
      obtain ⟨y0, y1, y2, y3⟩ := row4 (K3.out.at 0 rfl)
      go_upto_region 5 with (first | (go_at_call 14; refine CL1.out.mono ?_; rintro e X4 ⟨v4, rfl, ha4, ⟨a0, a1, a2, a3, a4, a5, a6, a7, ev⟩, hb4⟩; subst ev; have K4 := Lib.hid ((K3.out.keep hb4).allocAt X4.heap.size rfl (.cells #[.slice a0 qa a1, .slice a2 qb a3, .slice a4 qc a5, .slice a6 qd a7] 27)); have B4 := Lib.hid (hb4.alloc (by have := hb4.size; omega) (.cells #[.slice a0 qa a1, .slice a2 qb a3, .slice a4 qc a5, .slice a6 qd a7] 27)); have HA := Lib.hid (ha4.keep ((Below.refl _ X4).alloc (Nat.le_refl _) (.cells #[.slice a0 qa a1, .slice a2 qb a3, .slice a4 qc a5, .slice a6 qd a7] 27))); clear ha4 hb4))
      obtain ⟨p4, hp4⟩ : ∃ p, X4.heap.size = p := ⟨_, rfl⟩
      obtain ⟨w4, hw4⟩ : ∃ X, X4.alloc (.cells #[.slice a0 qa a1, .slice a2 qb a3, .slice a4 qc a5, .slice a6 qd a7] 27) = X := ⟨_, rfl⟩
      rw [hw4] at K4 B4 HA ⊢
      rw [hp4] at K4 ⊢
      clear hw4 hp4 y0 y1 y2 y3
      obtain ⟨y0, y1, y2, y3⟩ := row4 (K4.out.at 2 rfl)
      go_upto_region 6 with (first | (go_at_call 15; refine (CL2.out _ B4.out).mono ?_; rintro e X5 ⟨v5, rfl, ha5, ⟨b0, b1, b2, b3, b4, b5, b6, b7, ev⟩, hb5⟩; subst ev; have K5 := Lib.hid ((K4.out.keep hb5).allocAt X5.heap.size rfl (.cells #[.slice b0 qa b1, .slice b2 qb b3, .slice b4 qc b5, .slice b6 qd b7] 27)); have B5 := Lib.hid ((B4.out.trans (hb5.mono B4.out.size)).alloc (by have := B4.out.size; have := hb5.size; omega) (.cells #[.slice b0 qa b1, .slice b2 qb b3, .slice b4 qc b5, .slice b6 qd b7] 27)); have D5 := Lib.hid (hb5.alloc (by have := hb5.size; omega) (.cells #[.slice b0 qa b1, .slice b2 qb b3, .slice b4 qc b5, .slice b6 qd b7] 27)); have HAr0 := Lib.hid (ha5.keep ((Below.refl _ X5).alloc (Nat.le_refl _) (.cells #[.slice b0 qa b1, .slice b2 qb b3, .slice b4 qc b5, .slice b6 qd b7] 27))); clear ha5 hb5))
      obtain ⟨p6, hp6⟩ : ∃ p, X5.heap.size = p := ⟨_, rfl⟩
      obtain ⟨w5, hw5⟩ : ∃ X, X5.alloc (.cells #[.slice b0 qa b1, .slice b2 qb b3, .slice b4 qc b5, .slice b6 qd b7] 27) = X := ⟨_, rfl⟩
      rw [hw5] at K5 B5 D5 HAr0 ⊢
      rw [hp6] at K5 ⊢
      clear hw5 hp6 y0 y1 y2 y3 K4 B4 K3
      have K6 := K5
      have HAa := Lib.hid (HA.out.keep D5.out)
      clear HA
      have HA := HAa
      have HAr := HAr0
      have HGa := Lib.hid (HG.out.keep B5.out)
      clear HG
      have HG := HGa
      have HP6 := Lib.hid (HP.out.keep B5.out)
      obtain ⟨p3, hp3⟩ : ∃ p, b = p := ⟨_, rfl⟩
      rw [hp3] at K6 ⊢
      clear hp3 K5 HAa HAr0 HGa B5 D5 CL1 CL2 HP HPW
      refine wp_region_steps (by kernel_rfl) (s6 er (.agg #[.slice ga nr gc, .slice ha nz hc, .slice ia nl ic, .slice ja ns jc]) (.agg #[.slice ra nr rc, .slice za nz zc, .slice la nl lc, .slice sa ns sc]) D1 T1 L1 S1 D CT CL Sh) (by kernel_rfl) (guards6_ok (by kernel_rfl)) (fun d w w' v h hB => s6_keep h hB) ?steps2 ?hend2
      case steps2 =>
        refine steps_cons 35 rfl ?_ ?_
        · intro T D' w hB0 hold hdep K hK0
          have hK := Lib.hid hK0
          have h5 : T[5]?.getD undef = .int .i64 er := hold 5 rfl
          clear hold hdep hK0
          go_simp
          exact hK.out _ _ (Below.refl _ _) rfl
        refine steps_cons 36 rfl ?_ ?_
        · intro T D' w hB0 hold hdep K hK0
          have hK := Lib.hid hK0
          have h7 : T[7]?.getD undef = .int .i64 er := hold 7 rfl
          clear hold hdep hK0
          go_simp
          exact hK.out _ _ (Below.refl _ _) rfl
        refine steps_cons 37 rfl ?_ ?_
        · intro T D' w hB0 hold hdep K hK0
          have hK := Lib.hid hK0
          have q35 : T[35]?.getD undef = .int .i64 er := dep hdep 0 (by kernel_rfl) rfl rfl
          have q36 : T[36]?.getD undef = .int .i64 er := dep hdep 1 (by kernel_rfl) rfl rfl
          clear hold hdep hK0
          go_simp
          exact hK.out _ _ (Below.refl _ _) rfl
        refine steps_cons 38 rfl ?_ ?_
        · intro T D' w hB0 hold hdep K hK0
          have hK := Lib.hid hK0
          have q37 : T[37]?.getD undef = .bool true := dep hdep 2 (by kernel_rfl) rfl rfl
          clear hold hdep hK0
          go_simp
          exact hK.out _ _ (Below.refl _ _) rfl
        refine steps_cons 39 rfl ?_ ?_
        · intro T D' w hB0 hold hdep K hK0
          have hK := Lib.hid hK0
          have h4 : T[4]?.getD undef = .pointer (some ⟨p4, 0, none⟩) := hold 4 rfl
          clear hold hdep hK0
          obtain ⟨c0, c1, c2, c3⟩ := row4 ((K6.out.keep hB0).at 1 rfl)
          go_simp
          exact hK.out _ _ (Below.refl _ _) (HA.out.keep hB0)
        refine steps_cons 40 rfl ?_ ?_
        · intro T D' w hB0 hold hdep K hK0
          have hK := Lib.hid hK0
          have h6 : T[6]?.getD undef = .pointer (some ⟨p6, 0, none⟩) := hold 6 rfl
          clear hold hdep hK0
          obtain ⟨c0, c1, c2, c3⟩ := row4 ((K6.out.keep hB0).at 0 rfl)
          go_simp
          exact hK.out _ _ (Below.refl _ _) (HAr.out.keep hB0)
        refine steps_cons 41 rfl ?_ ?_
        · intro T D' w hB0 hold hdep K hK0
          have hK := Lib.hid hK0
          have q39 : Kt6.S (.src D1 T1 L1 S1) w (T[39]?.getD undef) := dep hdep 4 (by kernel_rfl) rfl rfl
          have q40 : Kt6.S (.src D1 T1 L1 S1) w (T[40]?.getD undef) := dep hdep 5 (by kernel_rfl) rfl rfl
          clear hold hdep hK0
          have H1 := Lib.hid q39
          have H2 := Lib.hid q40
          clear q39 q40
          go_simp
          refine (same_A H1.out H2.out).mono ?_
          rintro _ V ⟨rfl, hb⟩
          exact hK.out _ _ hb rfl
        refine steps_cons 42 rfl ?_ ?_
        · intro T D' w hB0 hold hdep K hK0
          have hK := Lib.hid hK0
          have q38 : T[38]?.getD undef = .bool true := dep hdep 3 (by kernel_rfl) rfl rfl
          have q41 : T[41]?.getD undef = .bool true := dep hdep 6 (by kernel_rfl) rfl rfl
          clear hold hdep hK0
          go_simp
          exact hK.out _ _ (Below.refl _ _) rfl
        refine steps_cons 43 rfl ?_ ?_
        · intro T D' w hB0 hold hdep K hK0
          have hK := Lib.hid hK0
          have q42 : T[42]?.getD undef = .bool true := dep hdep 7 (by kernel_rfl) rfl rfl
          clear hold hdep hK0
          go_simp
          exact hK.out _ _ (Below.refl _ _) rfl
        refine steps_cons 44 rfl ?_ ?_
        · intro T D' w hB0 hold hdep K hK0
          have hK := Lib.hid hK0
          have h3 : T[3]?.getD undef = .pointer (some ⟨p3, 0, none⟩) := hold 3 rfl
          clear hold hdep hK0
          obtain ⟨c0, c1, c2, c3⟩ := row4 ((K6.out.keep hB0).at 2 rfl)
          go_simp
          exact hK.out _ _ (Below.refl _ _) rfl
        refine steps_cons 45 rfl ?_ ?_
        · intro T D' w hB0 hold hdep K hK0
          have hK := Lib.hid hK0
          have q44 : T[44]?.getD undef = .agg #[.slice ga nr gc, .slice ha nz hc, .slice ia nl ic, .slice ja ns jc] := dep hdep 9 (by kernel_rfl) rfl rfl
          clear hold hdep hK0
          go_simp
          refine (sortP (HG.out.keep hB0) HF.out HCT.out HCL.out).mono ?_
          rintro _ V ⟨v, rfl, hs, _, hb⟩
          exact hK.out _ _ hb hs
        refine steps_cons 46 rfl ?_ ?_
        · intro T D' w hB0 hold hdep K hK0
          have hK := Lib.hid hK0
          have h1 : T[1]?.getD undef = .pointer (some ⟨W.heap.size, 0, none⟩) := hold 1 rfl
          clear hold hdep hK0
          obtain ⟨c0, c1, c2, c3⟩ := row4 ((K6.out.keep hB0).at 3 rfl)
          go_simp
          exact hK.out _ _ (Below.refl _ _) rfl
        refine steps_cons 47 rfl ?_ ?_
        · intro T D' w hB0 hold hdep K hK0
          have hK := Lib.hid hK0
          have q46 : T[46]?.getD undef = .agg #[.slice ra nr rc, .slice za nz zc, .slice la nl lc, .slice sa ns sc] := dep hdep 11 (by kernel_rfl) rfl rfl
          clear hold hdep hK0
          go_simp
          refine (rsortP (HP6.out.keep hB0) HF.out HCT.out HCL.out).mono ?_
          rintro _ V ⟨v, rfl, hs, hb⟩
          exact hK.out _ _ hb hs
        refine steps_cons 48 rfl ?_ ?_
        · intro T D' w hB0 hold hdep K hK0
          have hK := Lib.hid hK0
          have q45 : Kt6.S (.src D CT CL Sh) w (T[45]?.getD undef) := dep hdep 10 (by kernel_rfl) rfl rfl
          have q47 : Kt6.S (.src D CT CL Sh) w (T[47]?.getD undef) := dep hdep 12 (by kernel_rfl) rfl rfl
          clear hold hdep hK0
          have H1 := Lib.hid q45
          have H2 := Lib.hid q47
          clear q45 q47
          go_simp
          refine (same_A H1.out H2.out).mono ?_
          rintro _ V ⟨rfl, hb⟩
          exact hK.out _ _ hb rfl
        refine steps_cons 49 rfl ?_ ?_
        · intro T D' w hB0 hold hdep K hK0
          have hK := Lib.hid hK0
          have q43 : T[43]?.getD undef = .bool true := dep hdep 8 (by kernel_rfl) rfl rfl
          have q48 : T[48]?.getD undef = .bool true := dep hdep 13 (by kernel_rfl) rfl rfl
          clear hold hdep hK0
          go_simp
          exact hK.out _ _ (Below.refl _ _) rfl
        refine steps_cons 50 rfl ?_ ?_
        · intro T D' w hB0 hold hdep K hK0
          have hK := Lib.hid hK0
          have q49 : T[49]?.getD undef = .bool true := dep hdep 14 (by kernel_rfl) rfl rfl
          clear hold hdep hK0
          go_simp
          exact hK.out _ _ (Below.refl _ _) rfl
        refine steps_cons 51 rfl ?_ ?_
        · intro T D' w hB0 hold hdep K hK0
          have hK := Lib.hid hK0
          have h3 : T[3]?.getD undef = .pointer (some ⟨p3, 0, none⟩) := hold 3 rfl
          clear hold hdep hK0
          obtain ⟨c0, c1, c2, c3⟩ := row4 ((K6.out.keep hB0).at 2 rfl)
          go_simp
          exact hK.out _ _ (Below.refl _ _) rfl
        refine steps_cons 52 rfl ?_ ?_
        · intro T D' w hB0 hold hdep K hK0
          have hK := Lib.hid hK0
          have h1 : T[1]?.getD undef = .pointer (some ⟨W.heap.size, 0, none⟩) := hold 1 rfl
          clear hold hdep hK0
          obtain ⟨c0, c1, c2, c3⟩ := row4 ((K6.out.keep hB0).at 3 rfl)
          go_simp
          exact hK.out _ _ (Below.refl _ _) rfl
        refine steps_cons 53 rfl ?_ ?_
        · intro T D' w hB0 hold hdep K hK0
          have hK := Lib.hid hK0
          have q51 : T[51]?.getD undef = .agg #[.slice ga nr gc, .slice ha nz hc, .slice ia nl ic, .slice ja ns jc] := dep hdep 16 (by kernel_rfl) rfl rfl
          have q52 : T[52]?.getD undef = .agg #[.slice ra nr rc, .slice za nz zc, .slice la nl lc, .slice sa ns sc] := dep hdep 17 (by kernel_rfl) rfl rfl
          clear hold hdep hK0
          go_simp
          refine (same_A (HG.out.keep hB0).A (HP6.out.keep hB0).A).mono ?_
          rintro _ V ⟨rfl, hb⟩
          exact hK.out _ _ hb rfl
        refine steps_cons 54 rfl ?_ ?_
        · intro T D' w hB0 hold hdep K hK0
          have hK := Lib.hid hK0
          have q50 : T[50]?.getD undef = .bool true := dep hdep 15 (by kernel_rfl) rfl rfl
          have q53 : T[53]?.getD undef = .bool true := dep hdep 18 (by kernel_rfl) rfl rfl
          clear hold hdep hK0
          go_simp
          exact hK.out _ _ (Below.refl _ _) rfl
        refine steps_cons 55 rfl ?_ ?_
        · intro T D' w hB0 hold hdep K hK0
          have hK := Lib.hid hK0
          have q54 : T[54]?.getD undef = .bool true := dep hdep 19 (by kernel_rfl) rfl rfl
          clear hold hdep hK0
          go_simp
          exact hK.out _ _ (Below.refl _ _) rfl
        refine steps_cons 56 rfl ?_ ?_
        · intro T D' w hB0 hold hdep K hK0
          have hK := Lib.hid hK0
          clear hold hdep hK0
          go_simp
          refine (works35_any w).mono ?_
          rintro _ V ⟨rfl, hb⟩
          exact hK.out _ _ hb rfl
        refine steps_cons 57 rfl ?_ ?_
        · intro T D' w hB0 hold hdep K hK0
          have hK := Lib.hid hK0
          have q55 : T[55]?.getD undef = .bool true := dep hdep 20 (by kernel_rfl) rfl rfl
          have q56 : T[56]?.getD undef = .bool true := dep hdep 21 (by kernel_rfl) rfl rfl
          clear hold hdep hK0
          go_simp
          exact hK.out _ _ (Below.refl _ _) rfl
        refine steps_cons 2 rfl ?_ ?_
        · intro T D' w hB0 hold hdep K hK0
          have hK := Lib.hid hK0
          have q57 : T[57]?.getD undef = .bool true := dep hdep 22 (by kernel_rfl) rfl rfl
          clear hold hdep hK0
          go_simp
          exact hK.out _ _ (Below.refl _ _) rfl
        exact steps_nil
      case hend2 =>
        intro T' w hsz hB0 hold hS
        have e2 : T'[2]?.getD undef = .bool true := hS 2 (by rfl)
        have K9 := Lib.hid (K6.out.keep hB0)
        obtain ⟨G2, hG2⟩ : ∃ G : Nat → Value, ∀ t, T'[t]?.getD undef = G t := ⟨_, fun _ => rfl⟩
        have e := tmps_lit T' 58 hsz
        simp only [hG2] at e
        have e' : T' = #[G2 0, G2 1, G2 2, G2 3, G2 4, G2 5, G2 6, G2 7, G2 8, G2 9, G2 10, G2 11, G2 12, G2 13, G2 14, G2 15, G2 16, G2 17, G2 18, G2 19, G2 20, G2 21, G2 22, G2 23, G2 24, G2 25, G2 26, G2 27, G2 28, G2 29, G2 30, G2 31, G2 32, G2 33, G2 34, G2 35, G2 36, G2 37, G2 38, G2 39, G2 40, G2 41, G2 42, G2 43, G2 44, G2 45, G2 46, G2 47, G2 48, G2 49, G2 50, G2 51, G2 52, G2 53, G2 54, G2 55, G2 56, G2 57] := e.trans rfl
        rw [hG2] at e2
        clear hold hS e hG2 hsz hB0
        rw [e', e2]
        clear e' e2
        go_wp2_with fail
        go_ret
        exact ⟨rfl, K9.out.below⟩
end Go.Proofs.YtnffecoohkanhaaDoor.Px
