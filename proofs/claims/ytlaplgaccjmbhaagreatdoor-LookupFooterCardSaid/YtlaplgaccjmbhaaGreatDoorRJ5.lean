/- The method changes of a draft of chapter 45: the changes of a table by numbers. -/
import Derived.Test.YtlaplgaccjmbhaaGreatDoorRJ1
import Derived.Test.YtlaplgaccjmbhaaGreatDoorRJ3
import Derived.Test.YtlaplgaccjmbhaaGreatDoorRJ4
import Derived.Test.YtlaplgaccjmbhaaGreatDoorRJ0
import Derived.Test.YtlaplgaccjmbhaaGreatDoorSG12
import Derived.Test.YtlaplgaccjmbhaaGreatDoorSG17
import Derived.Deep.RegionHeld3
import Derived.Deep.QuietTactic
import Derived.BigQuiet
namespace Go.Proofs.YtlaplgaccjmbhaaGreatDoor.Px
open Go.RowKit
open Civ Tb
/-- the instant behind some gaps -/
def goE : Int → List Int → Int
  | t, [] => t
  | t, s :: r => goE (t + (1 + s * 3000)) r
theorem goE_snoc (s : Int) : ∀ (r : List Int) (t : Int), goE t (r ++ [s]) = goE t r + (1 + s * 3000)
  | [], _ => rfl
  | _ :: r, _ => goE_snoc s r _
theorem goG_snoc (ks : List Int) (s : Int) : ∀ (r : List Int) (t : Int) (i : Nat), goG ks t i (r ++ [s]) = goG ks t i r ++ [(goE t r + (1 + s * 3000), kindL (kdN ks (i + r.length)))]
  | [], _, _ => rfl
  | x :: r, t, i => by
    rw [List.cons_append]
    unfold goG
    rw [goG_snoc ks s r, List.cons_append, List.length_cons, show i + (r.length + 1) = i + 1 + r.length by omega]
    rfl
theorem goE_bd : ∀ (r : List Int) (t : Int), (∀ x ∈ r, 0 ≤ x ∧ x ≤ 65535) → t ≤ goE t r ∧ goE t r ≤ t + 196605001 * r.length
  | [], t, _ => by simp [goE]
  | s :: r, t, h => by
    have h1 := h s (List.mem_cons_self ..)
    have h2 := goE_bd r (t + (1 + s * 3000)) (fun x hx => h x (List.mem_cons_of_mem _ hx))
    unfold goE
    rw [List.length_cons]
    omega
/-- the two slices of the changes -/
def chR (v13 v14 : Value) (g : List (Int × Lc)) : List Rw := [⟨v13, 2, 1, g.length, g.map (fun x => Value.int .i64 x.1)⟩, ⟨v14, 28, 3, g.length, (g.map Prod.snd).flatMap Lc.cells⟩]
/-- a slice that the call owns, as a known block -/
theorem Kp.known_of {L : List (Nat × Obj)} {R : List Rw} {v : Value} {e : TypeId} {sz n : Nat} {xs : List Value} {w X : World} (h : Kp L (⟨v, e, sz, n, xs⟩ :: R) w X) (hn : 0 < n) :
    ∃ g cap cur, v = .slice (some ⟨g, 0, none⟩) n cap ∧ Kp ((g, .cells cur e (0, 0)) :: L) R w X ∧ n ≤ cap ∧ cap ≤ maxLen ∧ cur.size = cap * sz ∧ cur.toList.take (n * sz) = xs := by
  have hr : X.ownsRow w.heap.size e sz v n xs := h.row 0 rfl
  rcases hr.2 with ⟨_, h0⟩ | ⟨g, cap, cur, rfl, hg, hb, h1, h2, h3, h4⟩
  · omega
  · refine ⟨g, cap, cur, rfl, ⟨⟨h.below, fun k b o hk => ?_, fun p hp => ?_, List.pairwise_cons.2 ⟨fun p hp => h.offL _ (List.mem_cons_self ..) g rfl p hp, h.known.desc⟩⟩, fun r hr => h.own r (List.mem_cons_of_mem _ hr), fun r hr g' hg' p hp => ?_, (List.pairwise_cons.1 h.offR).2⟩, h1, h2, h3, h4⟩
    · cases k with
      | zero =>
        simp only [List.getElem?_cons_zero, Option.some.injEq, Prod.mk.injEq] at hk
        obtain ⟨rfl, rfl⟩ := hk
        exact hb
      | succ k => exact h.at k hk
    · rcases List.mem_cons.1 hp with rfl | hp
      · exact hg
      · exact h.known.own p hp
    · rcases List.mem_cons.1 hp with rfl | hp
      · intro e
        dsimp only at e
        subst e
        exact (List.pairwise_cons.1 h.offR).1 r hr g rfl hg'
      · exact h.offL r (List.mem_cons_of_mem _ hr) g' hg' p hp
theorem set3 {cur : Array Value} {k : Nat} (h : (k + 1) * 3 ≤ cur.size) (a b c : Value) : (((cur.setIfInBounds (k * 3) a).setIfInBounds (k * 3 + 1) b).setIfInBounds (k * 3 + 2) c).toList.take ((k + 1) * 3) = cur.toList.take (k * 3) ++ [a, b, c] := by
  apply List.ext_getElem?
  intro j
  rw [List.getElem?_take]
  by_cases hj : j < (k + 1) * 3
  · rw [if_pos hj]
    by_cases hk : j < k * 3
    · rw [List.getElem?_append_left (by rw [List.length_take, Array.length_toList]; omega), List.getElem?_take, if_pos hk]
      simp only [Array.getElem?_toList, Array.getElem?_setIfInBounds]
      rw [if_neg (by omega), if_neg (by omega), if_neg (by omega)]
    · rw [List.getElem?_append_right (by rw [List.length_take, Array.length_toList]; omega), List.length_take, Array.length_toList, Nat.min_eq_left (by omega)]
      simp only [Array.getElem?_toList, Array.getElem?_setIfInBounds, Array.size_setIfInBounds]
      rcases (show j = k * 3 ∨ j = k * 3 + 1 ∨ j = k * 3 + 2 by omega) with rfl | rfl | rfl
      · rw [if_neg (by omega), if_neg (by omega), if_pos rfl, if_pos (by omega)]
        simp
      · rw [if_neg (by omega), if_pos rfl, if_pos (by omega)]
        simp
      · rw [if_pos rfl, if_pos (by omega)]
        simp
  · rw [if_neg hj, List.getElem?_eq_none]
    rw [List.length_append, List.length_take, Array.length_toList]
    simp
    omega
theorem printP_cut {d : Drf} (h : d.In) : printP (cutP d.made) = (printL (cutP d.made), 0) := by
  unfold printP
  rw [(cut_is d h).ok, if_pos rfl]
theorem kdN_in (K : List Int) (i : Nat) : kdN K i = if K.length = 0 then i % 3 else (K.getD (i % K.length) 0).toNat % 3 := by
  unfold kdN
  by_cases h : K = []
  · rw [if_pos h, if_pos (by rw [h]; rfl)]
  · rw [if_neg h, if_neg (fun e => h (List.length_eq_zero_iff.1 e))]
theorem kind0 : kindL 0 = ⟨0, false, ⟨#[76, 77, 84]⟩⟩ := by kernel_rfl
theorem kind1 : kindL 1 = ⟨1800, true, ⟨#[76, 77, 83, 84]⟩⟩ := by kernel_rfl
theorem kind2 : kindL 2 = ⟨3600, false, ⟨#[76, 68, 77, 84]⟩⟩ := by kernel_rfl
theorem own_cell {X : World} {B : Nat} {e : TypeId} {g n cap N sz : Nat} {xs : List Value} (h : X.ownsRow B e sz (.slice (some ⟨g, 0, none⟩) n cap) N xs) {j : Nat} {u : Value} (hj : xs[j]? = some u) : X.cell? ⟨g, j, none⟩ = some u := by
  rcases own_cells h with ⟨_, e⟩ | ⟨g', cap', e, _, _, _, h4⟩
  · cases e
  · simp only [Value.slice.injEq, Option.some.injEq, Addr.mk.injEq, and_true] at e
    obtain ⟨rfl, _, _⟩ := e
    exact h4 j u hj
theorem Kp.past {L : List (Nat × Obj)} {R : List Rw} {w X : World} (h : Kp L R w X) (o : Obj) : Kp L R w (X.alloc o) := (h.alloc o).drop
/-- append to the first of the slices, as one step of a region that draws -/
theorem step_append_kp {ops : Array Oper} {o : Oper} {a : Act} {K : Act → World → Prop} {Q : Exit → Act → World → Prop} {E : Prop} {w : World} (hgd : o.guard = none) (s x : Operand) (t : TypeId)
    (ho : o.op = .call { callee := .builtin .append, args := #[s, x], argTypes := #[t, t] }) {L : List (Nat × Obj)} {R : List Rw} {W : World} {v : Value} {e : TypeId} {size n : Nat} {xs : List Value} (h : Kp L (⟨v, e, size, n, xs⟩ :: R) W w)
    (i : TypeInfo) (z : Value) (bytes : Nat) (ht : Tryz.prog.underlying t = some (.slice e)) (hi : Tryz.prog.info? e = some i) (hz : i.zero = some z) (hsize : i.size = size) (hby : i.bytes = bytes) (hzs : z.cells.size = size) (hsz : 0 < size)
    (hs : a.eval s = v) (idx B : Nat) (cs : Array Value) (T : TypeId) (hL : L[idx]? = some (B, .cells cs T (0, 0))) (m c : Nat) (hx : a.eval x = .slice (some ⟨B, 0, none⟩) m c) (hl : cs.toList.length = m * size) (h1 : ∀ u ∈ cs.toList, u.oneCell' = true)
    (hm : 0 < m) (hmax : n + m ≤ 1000000) (hb : bytes ≤ 1000)
    (hK : ∀ g cap w', Kp L (⟨.slice (some ⟨g, 0, none⟩) (n + m) cap, e, size, n + m, xs ++ cs.toList⟩ :: R) W w' → K (a.put o.dst (.slice (some ⟨g, 0, none⟩) (n + m) cap)) w') :
    if Region.wanted o (yielded ops a.tmps) = true then Oper.wp Tryz.prog o a w K Q else E :=
  step_append_lies w hgd s x t ho W.heap.size e i z size bytes ht hi hz hsize hby hzs hsz v n xs hs (h.row 0 rfl) ⟨B, 0, none⟩ m c cs.toList hx hl (World.news_of_block (h.at idx hL)) h1 hm (by unfold maxLen; omega)
    (by have := Nat.mul_le_mul hmax hb; omega) h.below.size w.heap.size rfl
    (fun g cap w' hown hgrow hat _ => hK g cap w' (h.append hown hgrow (ownAt hat)))
theorem chR_snoc (v13 v14 : Value) (g : List (Int × Lc)) (x : Int × Lc) : chR v13 v14 (g ++ [x]) = [⟨v13, 2, 1, g.length + 1, g.map (fun x => Value.int .i64 x.1) ++ [.int .i64 x.1]⟩, ⟨v14, 28, 3, g.length + 1, (g.map Prod.snd).flatMap Lc.cells ++ [.int .i64 x.2.off, .bool x.2.dst, .string x.2.abbr]⟩] := by
  simp [chR, Lc.cells]
/-- what the loop keeps: the instant so far and the changes -/
def Ch (L : List (Nat × Obj)) (ks : List Int) (t0 : Int) (G : List Int) (W : World) (i : Nat) (v12 v13 v14 : Value) (X : World) : Prop :=
  v12 = .int .i64 (goE t0 (G.take i)) ∧ Kp L (chR v13 v14 (goG ks t0 0 (G.take i))) W X
set_option maxHeartbeats 8000000 in
set_option maxRecDepth 100000 in
theorem changes_any (n0 n1 o0 o1 k0 k1 d0 d1 s0 s1 : Int) (q : Bool) (fi : Int) (G K : List Int) (gv kv : Value) (W : World) (h : D45V W gv kv ⟨⟨n0, n1, o0, o1, k0, k1, d0, d1, s0, s1, q⟩, fi, G, K⟩) (hin : D45.In ⟨⟨n0, n1, o0, o1, k0, k1, d0, d1, s0, s1, q⟩, fi, G, K⟩) (hE : EnvAt W) :
    Calls Tryz.prog 20 #[.agg #[.int .u8 n0, .int .u8 n1, .int .u8 o0, .int .u8 o1, .int .u8 k0, .int .u8 k1, .int .u8 d0, .int .u8 d1, .int .u8 s0, .int .u8 s1, .bool q, .int .i32 fi, gv, kv]] W fun e w' =>
      ∃ av lv, e = .returned (.tuple #[(D45.fst ⟨⟨n0, n1, o0, o1, k0, k1, d0, d1, s0, s1, q⟩, fi, G, K⟩).val, av, lv, .string (bs (printL (D45.pos ⟨⟨n0, n1, o0, o1, k0, k1, d0, d1, s0, s1, q⟩, fi, G, K⟩))), .bool true]) ∧
        Kp [] (chR av lv (D45.chg ⟨⟨n0, n1, o0, o1, k0, k1, d0, d1, s0, s1, q⟩, fi, G, K⟩)) W w' := by
  obtain ⟨D, hD⟩ : ∃ D, (⟨⟨n0, n1, o0, o1, k0, k1, d0, d1, s0, s1, q⟩, fi, G, K⟩ : D45) = D := ⟨_, rfl⟩
  have hft : D.foot = ⟨n0, n1, o0, o1, k0, k1, d0, d1, s0, s1, q⟩ := by rw [← hD]
  have hgp : D.gaps = G := by rw [← hD]
  have hkd : D.kinds = K := by rw [← hD]
  have hfi : D.first = fi := by rw [← hD]
  rw [hD] at h hin ⊢
  obtain ⟨ga, gc, hgv, g1, g2⟩ := h.gaps.slice
  obtain ⟨ka, kc, hkv, kk1, kk2⟩ := h.kinds.slice
  have hGall := fun h0 => h.gaps.all h0
  have hKall := fun h0 => h.kinds.all h0
  have hInG := hin.ga
  have hInK := hin.ki
  have hInF := hin.fi
  rw [hgp] at hgv g1 hGall hInG
  rw [hkd] at hkv kk1 hKall hInK
  rw [hfi] at hInF
  unfold maxLen at g2 kk2
  have CM := Lib.hid (fun w => made_cells n0 n1 o0 o1 k0 k1 d0 d1 s0 s1 q (by have := hin.fo; rw [hft] at this; exact this) w)
  have hcut := cut_is D.foot hin.fo
  have hprint := printP_cut hin.fo
  have hlen := hcut.len
  have hsz := made_size D.foot
  rw [← hft] at CM
  obtain ⟨P, hP⟩ : ∃ P, D.foot.made = P := ⟨_, rfl⟩
  rw [hP] at CM hcut hprint hsz hlen
  have hpos : D.pos = cutP P := by unfold D45.pos; rw [hP]
  have K0 := Lib.hid (((Kp.start W).alloc (.cells #[.int .u8 n0, .int .u8 n1, .int .u8 o0, .int .u8 o1, .int .u8 k0, .int .u8 k1, .int .u8 d0, .int .u8 d1, .int .u8 s0, .int .u8 s1, .bool q, .int .i32 fi, gv, kv] 41)).allocAt (W.heap.size + 1) (by simp) (.cells #[.int .i64 0, .bool false, .string ⟨#[]⟩] 28))
  have HE := Lib.hid hE
  subst hgv hkv
  obtain ⟨a, b, c, o, ⟨e1, e2, e3, e4, e5⟩, ⟨p1, p2, p3, p4, p5⟩⟩ := P
  unfold Pos.val at CM
  dsimp only at CM
  have hPPs : (cutP ⟨a, b, c, o, ⟨e1, e2, e3, e4, e5⟩, ⟨p1, p2, p3, p4, p5⟩⟩).std.size ≤ 7 ∧ (cutP ⟨a, b, c, o, ⟨e1, e2, e3, e4, e5⟩, ⟨p1, p2, p3, p4, p5⟩⟩).dst.size ≤ 7 := hsz
  obtain ⟨PP, hPP⟩ : ∃ PP, cutP ⟨a, b, c, o, ⟨e1, e2, e3, e4, e5⟩, ⟨p1, p2, p3, p4, p5⟩⟩ = PP := ⟨_, rfl⟩
  rw [hPP] at hprint hcut hpos hlen hPPs
  have CR := Lib.hid (fun w hE => prt_any PP (by omega) (by omega) w hE)
  rw [hprint] at CR
  have CA := Lib.hid (fun t w hE => atL_any PP t (by omega) (by omega) w hE)
  have HC := Lib.hid hcut
  have HP := Lib.hid hpos
  have HD := Lib.hid hD
  have HGa := Lib.hid hGall
  have HKa := Lib.hid hKall
  have HIG := Lib.hid hInG
  have HIK := Lib.hid hInK
  have HIn := Lib.hid hin
  have HDD := Lib.hid (And.intro hft (And.intro hgp (And.intro hkd hfi)))
  clear hE h hprint hcut hpos hD hGall hKall hInG hInK hin hft hgp hkd hfi hP hsz
  go_enter Tryz.func20, Tryz.ntmps20
  go_wp2_with fail
  refine (CM.out _).mono ?_
  rintro _ V ⟨rfl, hb⟩
  have K2 := Lib.hid (K0.out.keep hb)
  have K1 := Lib.hid ((K0.out.keep hb).alloc (.cells #[.string a, .int .i64 b, .string c, .int .i64 o, .int .i64 e1, .int .i64 e2, .int .i64 e3, .int .i64 e4, .int .i64 e5, .int .i64 p1, .int .i64 p2, .int .i64 p3, .int .i64 p4, .int .i64 p5] 50))
  clear hb
  go_upto_if 30 with fail
  go_cut [7] (fun v7 wx => ∃ o', cutP ⟨a, b, c, o, ⟨e1, e2, e3, e4, e5⟩, ⟨p1, p2, p3, p4, p5⟩⟩ = ⟨a, b.tmod 50000, c, o', ⟨e1, e2, e3, e4, e5⟩, ⟨p1, p2, p3, p4, p5⟩⟩ ∧ v7 = .pointer (some ⟨V.heap.size, 0, none⟩) ∧
    Kp [(V.heap.size, .cells #[.string a, .int .i64 (b.tmod 50000), .string c, .int .i64 o', .int .i64 e1, .int .i64 e2, .int .i64 e3, .int .i64 e4, .int .i64 e5, .int .i64 p1, .int .i64 p2, .int .i64 p3, .int .i64 p4, .int .i64 p5] 50 (0, 0)), (W.heap.size + 1, .cells #[.int .i64 0, .bool false, .string ⟨#[]⟩] 28 (0, 0)), (W.heap.size, .cells #[.int .u8 n0, .int .u8 n1, .int .u8 o0, .int .u8 o1, .int .u8 k0, .int .u8 k1, .int .u8 d0, .int .u8 d1, .int .u8 s0, .int .u8 s1, .bool q, .int .i32 fi, .slice ga G.length gc, .slice ka K.length kc] 41 (0, 0))] [] W wx)
  case first =>
    cases hc : c.toList.isEmpty
    · go_wp2_with fail
      go_meet
      exact ⟨o.tmod 50000, by unfold cutP; dsimp only; rw [if_neg (by rw [hc]; decide)], rfl, K2.out.alloc _⟩
    · go_wp2_with fail
      go_meet
      exact ⟨o, by unfold cutP; dsimp only; rw [if_pos hc], rfl, K2.out.alloc _⟩
  case rest =>
    obtain ⟨o', hcp, rfl, hk⟩ := hcut
    rw [hcp] at hPP
    subst hPP
    obtain ⟨S, hS⟩ : ∃ S, printL ⟨a, b.tmod 50000, c, o', ⟨e1, e2, e3, e4, e5⟩, ⟨p1, p2, p3, p4, p5⟩⟩ = S := ⟨_, rfl⟩
    have CA0 := CA.out 0
    obtain ⟨q1, q2, q3, q4⟩ := atL_cut HC.out (t := 0) (by omega) (by omega)
    rw [q1] at CA0
    obtain ⟨A0, hA0⟩ : ∃ A0, (atL ⟨a, b.tmod 50000, c, o', ⟨e1, e2, e3, e4, e5⟩, ⟨p1, p2, p3, p4, p5⟩⟩ 0).1 = A0 := ⟨_, rfl⟩
    rw [hA0] at CA0
    obtain ⟨lo, ld, la⟩ := A0
    have CA1 := Lib.hid CA0
    unfold Pos.val at CR CA1
    unfold Lc.val at CA1
    dsimp only at CR CA1
    rw [hS] at CR
    have HS := Lib.hid hS
    have HA0 := Lib.hid hA0
    have K3 := Lib.hid hk
    have f0 : IntKind.i64.wrap (fi * 1000) = fi * 1000 := IntWalk.i64_in _ (by omega)
    obtain ⟨fi0, fi1⟩ := hInF
    clear hk q1 q2 q3 q4 hS hA0 CA0 hcp CM K0 K1 K2
    obtain ⟨x0, x1, x2, x3, x4, x5, x6, x7, x8, x9, x10, x11, x12, x13⟩ := row14 (K3.out.at 0 rfl)
    go_wp2_with fail
    refine (CR.out _ (HE.out.keep K3.out.below)).mono ?_
    rintro _ V2 ⟨rfl, hb⟩
    have K4 := Lib.hid (K3.out.keep hb)
    clear hb x0 x1 x2 x3 x4 x5 x6 x7 x8 x9 x10 x11 x12 x13
    obtain ⟨x0, x1, x2, x3, x4, x5, x6, x7, x8, x9, x10, x11, x12, x13⟩ := row14 (K4.out.at 0 rfl)
    go_wp2_with fail
    refine (CA1.out _ (HE.out.keep K4.out.below)).mono ?_
    rintro _ V3 ⟨rfl, hb⟩
    have K5 := Lib.hid ((K4.out.keep hb).alloc (.cells #[.int .i64 lo, .bool ld, .string la] 28))
    clear hb x0 x1 x2 x3 x4 x5 x6 x7 x8 x9 x10 x11 x12 x13
    obtain ⟨y0, y1, y2, y3, y4, y5, y6, y7, y8, y9, y10, y11, y12, y13⟩ := row14 (K5.out.at 3 rfl)
    obtain ⟨N, hN⟩ : ∃ N, (G.take 30).length = N := ⟨_, rfl⟩
    have hNl := hN
    rw [List.length_take] at hNl
    have hmin : min ((G.length : Nat) : Int) 30 = (N : Int) := by omega
    have hmax0 : max (N : Int) 0 = (N : Int) := by omega
    have hN30 : N ≤ 30 := by omega
    have hNG : N ≤ G.length := by omega
    obtain ⟨GT, hGT⟩ : ∃ g, G.take 30 = g := ⟨_, rfl⟩
    have hGat : ∀ i, i < N → GT[i]? = G[i]? := fun i hi => by rw [← hGT, List.getElem?_take, if_pos (by omega)]
    rw [hGT] at hN
    have HNn := Lib.hid hN
    have HGT := Lib.hid hGT
    have HGat := Lib.hid hGat
    have K6 := Lib.hid ((K5.out.fresh 28 3).fresh 2 1)
    have T0 := Lib.hid (show Ch [(V3.heap.size, .cells #[.int .i64 lo, .bool ld, .string la] 28 (0, 0)), (V.heap.size, .cells #[.string a, .int .i64 (b.tmod 50000), .string c, .int .i64 o', .int .i64 e1, .int .i64 e2, .int .i64 e3, .int .i64 e4, .int .i64 e5, .int .i64 p1, .int .i64 p2, .int .i64 p3, .int .i64 p4, .int .i64 p5] 50 (0, 0)), (W.heap.size + 1, .cells #[.int .i64 0, .bool false, .string ⟨#[]⟩] 28 (0, 0)), (W.heap.size, .cells #[.int .u8 n0, .int .u8 n1, .int .u8 o0, .int .u8 o1, .int .u8 k0, .int .u8 k1, .int .u8 d0, .int .u8 d1, .int .u8 s0, .int .u8 s1, .bool q, .int .i32 fi, .slice ga G.length gc, .slice ka K.length kc] 41 (0, 0))] K (fi * 1000) GT W 0 (.int .i64 (fi * 1000)) (.slice none 0 0) (.slice none 0 0) _ from ⟨rfl, K6.out⟩)
    obtain ⟨i0, hi, hz0, hz1, hz2⟩ := info_parts infoLc
    obtain ⟨j0, hj, hy0, hy1, hy2⟩ := info_parts infoI64
    clear hN hGT hGat hNl K3 K4 K5 K6
    go_wp2_with fail
    go_loopw [12, 13, 14, 15, 16, 17, 57] (fun v12 v13 v14 _ _ _ v57 wr => ∃ i : Nat, i ≤ N ∧ v57 = .int .i64 i ∧ Ch [(V3.heap.size, .cells #[.int .i64 lo, .bool ld, .string la] 28 (0, 0)), (V.heap.size, .cells #[.string a, .int .i64 (b.tmod 50000), .string c, .int .i64 o', .int .i64 e1, .int .i64 e2, .int .i64 e3, .int .i64 e4, .int .i64 e5, .int .i64 p1, .int .i64 p2, .int .i64 p3, .int .i64 p4, .int .i64 p5] 50 (0, 0)), (W.heap.size + 1, .cells #[.int .i64 0, .bool false, .string ⟨#[]⟩] 28 (0, 0)), (W.heap.size, .cells #[.int .u8 n0, .int .u8 n1, .int .u8 o0, .int .u8 o1, .int .u8 k0, .int .u8 k1, .int .u8 d0, .int .u8 d1, .int .u8 s0, .int .u8 s1, .bool q, .int .i32 fi, .slice ga G.length gc, .slice ka K.length kc] 41 (0, 0))] K (fi * 1000) GT W i v12 v13 v14 wr) (fun _ _ _ _ _ _ v57 _ => N - (intOf v57).toNat)
    case atStart => exact ⟨0, by omega, rfl, T0.out⟩
    case round =>
      obtain ⟨i, hi', rfl, rfl, hK⟩ := hrel
      have HK := Lib.hid hK
      obtain ⟨T, hT⟩ : ∃ T, goE (fi * 1000) (GT.take i) = T := ⟨_, rfl⟩
      have hTb := goE_bd (GT.take i) (fi * 1000) (fun x hx => HIG.out x (List.mem_of_mem_take (by rw [HGT.out]; exact List.mem_of_mem_take hx)))
      rw [hT, List.length_take] at hTb
      have hT2 : -3000000000000 ≤ T ∧ T ≤ 9000000000000 := by
        obtain ⟨h1, h2⟩ := hTb
        have h3 : ((min i GT.length : Nat) : Int) ≤ 30 := by omega
        omega
      obtain ⟨hT3, hT4⟩ := hT2
      have HT := Lib.hid hT
      rw [hT]
      clear hK hTb hT
      by_cases hlt : i < N
      · obtain ⟨bg, og, cg, e9, _, _, hbg, hcell⟩ := HGa.out (by omega)
        simp only [Value.slice.injEq] at e9
        obtain ⟨hga, -, -⟩ := e9
        subst hga
        obtain ⟨s, hs⟩ : ∃ s, GT[i]? = some s := ⟨_, List.getElem?_eq_getElem (by have := HNn.out; omega)⟩
        have hsG : G[i]? = some s := by rw [← HGat.out i hlt]; exact hs
        obtain ⟨hs0, hs1⟩ := HIG.out s (List.mem_of_getElem? hsG)
        have a0 := (HK.out.below.cell (p := ⟨bg, og + i, none⟩) hbg).trans (hcell i s hsG)
        have hbw : bg < wr.heap.size := Nat.lt_of_lt_of_le hbg HK.out.below.size
        obtain ⟨y0, y1, y2, y3, y4, y5, y6, y7, y8, y9, y10, y11, y12, y13⟩ := row14 (HK.out.at 3 rfl)
        have w1 : IntKind.i64.wrap (s * 3000) = s * 3000 := IntWalk.i64_in _ (by omega)
        have w2 : IntKind.i64.wrap (1 + s * 3000) = 1 + s * 3000 := IntWalk.i64_in _ (by omega)
        have w3 : IntKind.i64.wrap (T + (1 + s * 3000)) = T + (1 + s * 3000) := IntWalk.i64_in _ (by omega)
        have hiN : (i : Int) < (N : Int) := by omega
        have HSi := Lib.hid hs
        obtain ⟨kk, hkk⟩ : ∃ kk, kdN K i = kk := ⟨_, rfl⟩
        have hk3 := kdN_lt K i
        rw [hkk] at hk3
        clear hcell hs hsG
        go_upto_if 73 with fail
        go_cut [17] (fun v17 wx => v17 = .int .i64 (kk : Int) ∧ Kp [(V3.heap.size, .cells #[.int .i64 lo, .bool ld, .string la] 28 (0, 0)), (V.heap.size, .cells #[.string a, .int .i64 (b.tmod 50000), .string c, .int .i64 o', .int .i64 e1, .int .i64 e2, .int .i64 e3, .int .i64 e4, .int .i64 e5, .int .i64 p1, .int .i64 p2, .int .i64 p3, .int .i64 p4, .int .i64 p5] 50 (0, 0)), (W.heap.size + 1, .cells #[.int .i64 0, .bool false, .string ⟨#[]⟩] 28 (0, 0)), (W.heap.size, .cells #[.int .u8 n0, .int .u8 n1, .int .u8 o0, .int .u8 o1, .int .u8 k0, .int .u8 k1, .int .u8 d0, .int .u8 d1, .int .u8 s0, .int .u8 s1, .bool q, .int .i32 fi, .slice (some ⟨bg, og, none⟩) G.length gc, .slice ka K.length kc] 41 (0, 0))] (chR u13 u14 (goG K (fi * 1000) 0 (GT.take i))) W wx)
        case first =>
          have hlin := kdN_in K i
          rw [hkk] at hlin
          by_cases hK0 : K.length = 0
          · have c0 : ¬ (0 : Int) < (K.length : Int) := by omega
            rw [if_pos hK0] at hlin
            clear hK0 hkk
            have hv : (i : Int) % 3 = (kk : Int) := by omega
            go_wp2_with fail
            go_meet
            exact ⟨by rw [hv], HK.out⟩
          · have c0 : (0 : Int) < (K.length : Int) := by omega
            rw [if_neg hK0] at hlin
            have hmod : i % K.length < K.length := Nat.mod_lt _ (by omega)
            obtain ⟨bk, ok, ck, e8, _, _, hbk, hkcell⟩ := HKa.out (by omega)
            simp only [Value.slice.injEq] at e8
            obtain ⟨hka, -, -⟩ := e8
            subst hka
            obtain ⟨x, hx⟩ : ∃ x, K[i % K.length]? = some x := ⟨_, List.getElem?_eq_getElem hmod⟩
            obtain ⟨hx0, hx1⟩ := HIK.out x (List.mem_of_getElem? hx)
            have b0 := (HK.out.below.cell (p := ⟨bk, ok + i % K.length, none⟩) hbk).trans (hkcell _ x hx)
            rw [List.getD_eq_getElem?_getD, hx, Option.getD_some] at hlin
            have hbkw : bk < wr.heap.size := Nat.lt_of_lt_of_le hbk HK.out.below.size
            have hmI : (i : Int) % (K.length : Int) = ((i % K.length : Nat) : Int) := by simp
            obtain ⟨j, hj'⟩ : ∃ j, i % K.length = j := ⟨_, rfl⟩
            rw [hj'] at hmI hmod b0
            have hjn : (j : Int) < (K.length : Int) := by omega
            have hK1 : ¬ (K.length : Int) = 0 := by omega
            have hv : x % 3 = (kk : Int) := by omega
            clear hkk hlin hx hkcell hj' hK0
            go_wp2_with fail
            go_quiet (fail)
            go_wp2_with fail
            go_meet
            generalize hX : wr.drewN _ = X
            exact ⟨by rw [hv], HK.out.drewN hX⟩
        case rest =>
          obtain ⟨rfl, hk⟩ := hcut
          have hgl : (goG K (fi * 1000) 0 (GT.take i)).length = i := by rw [goG_len, List.length_take, HNn.out]; omega
          have hnext : goG K (fi * 1000) 0 (GT.take (i + 1)) = goG K (fi * 1000) 0 (GT.take i) ++ [(T + (1 + s * 3000), kindL kk)] := by
            rw [List.take_add_one, HSi.out]
            show goG K (fi * 1000) 0 (GT.take i ++ [s]) = _
            rw [goG_snoc, HT.out, List.length_take, HNn.out, Nat.min_eq_left (by omega), Nat.zero_add, hkk]
          have hnextE : goE (fi * 1000) (GT.take (i + 1)) = T + (1 + s * 3000) := by
            rw [List.take_add_one, HSi.out]
            show goE (fi * 1000) (GT.take i ++ [s]) = _
            rw [goE_snoc, HT.out]
          obtain ⟨g, hg⟩ : ∃ g, goG K (fi * 1000) 0 (GT.take i) = g := ⟨_, rfl⟩
          rw [hg] at hk hgl hnext
          have KX := Lib.hid (show Kp _ [⟨u13, 2, 1, g.length, g.map (fun x => Value.int .i64 x.1)⟩, ⟨u14, 28, 3, g.length, (g.map Prod.snd).flatMap Lc.cells⟩] W wc from hk)
          have HX := Lib.hid hnext
          have HXE := Lib.hid hnextE
          have hgi : g.length ≤ 30 := by omega
          clear hk hg hnext hnextE hkk a0 w1 w2 w3 hbw y0 y1 y2 y3 y4 y5 y6 y7 y8 y9 y10 y11 y12 y13 hgl HSi HT hs0 hs1
          have hk3' : kk = 0 ∨ kk = 1 ∨ kk = 2 := by omega
          rcases hk3' with rfl | rfl | rfl
          all_goals
            go_wp2_with fail
            go_region_law (first
                | (refine step_append_kp (by rfl) (.tmp 85) (.tmp 87) 42 (by rfl) (KX.out.allocAt (wc.heap.size) (by simp) _).drew j0 (.int .i64 0) 8 Tryz.underlying42 hj hy0 hy1 hy2 (by rfl) (by decide) (by rfl) 0 _ _ _ (by rfl) 1 1 (by rfl) (by rfl) (by simp [Value.oneCell']) (by omega) (by omega) (by omega) ?_; intro g cap w1 hk; have KA := Lib.hid hk; clear hk)
                | (refine step_append_kp (by rfl) (.tmp 85) (.tmp 87) 42 (by rfl) ((KX.out.allocAt (wc.heap.size) (by simp) _).allocAt (wc.heap.size + 1) (by simp) _).drew j0 (.int .i64 0) 8 Tryz.underlying42 hj hy0 hy1 hy2 (by rfl) (by decide) (by rfl) 0 _ _ _ (by rfl) 1 1 (by rfl) (by rfl) (by simp [Value.oneCell']) (by omega) (by omega) (by omega) ?_; intro g cap w1 hk; have KA := Lib.hid hk; obtain ⟨st0, st1, st2⟩ := (row3 (hk.at 1 rfl)).1; clear hk)
                | (refine step_append_kp (by rfl) (.tmp 85) (.tmp 87) 42 (by rfl) ((KX.out.allocAt (wc.heap.size) (by simp) _).allocAt (wc.heap.size + 1) (by simp) _).drew j0 (.int .i64 0) 8 Tryz.underlying42 hj hy0 hy1 hy2 (by rfl) (by decide) (by rfl) 1 _ _ _ (by rfl) 1 1 (by rfl) (by rfl) (by simp [Value.oneCell']) (by omega) (by omega) (by omega) ?_; intro g cap w1 hk; have KA := Lib.hid hk; obtain ⟨st0, st1, st2⟩ := (row3 (hk.at 0 rfl)).1; clear hk)
                | (refine step_append_kp (by rfl) (.tmp 85) (.tmp 87) 42 (by rfl) (((KX.out.allocAt (wc.heap.size) (by simp) _).allocAt (wc.heap.size + 1) (by simp) _).allocAt (wc.heap.size + 1 + 1) (by simp) _).drew j0 (.int .i64 0) 8 Tryz.underlying42 hj hy0 hy1 hy2 (by rfl) (by decide) (by rfl) 0 _ _ _ (by rfl) 1 1 (by rfl) (by rfl) (by simp [Value.oneCell']) (by omega) (by omega) (by omega) ?_; intro g cap w1 hk; have KA := Lib.hid hk; clear hk)
                | (refine step_append_kp (by rfl) (.tmp 85) (.tmp 87) 42 (by rfl) (((KX.out.allocAt (wc.heap.size) (by simp) _).allocAt (wc.heap.size + 1) (by simp) _).allocAt (wc.heap.size + 1 + 1) (by simp) _).drew j0 (.int .i64 0) 8 Tryz.underlying42 hj hy0 hy1 hy2 (by rfl) (by decide) (by rfl) 1 _ _ _ (by rfl) 1 1 (by rfl) (by rfl) (by simp [Value.oneCell']) (by omega) (by omega) (by omega) ?_; intro g cap w1 hk; have KA := Lib.hid hk; clear hk)
                | (refine step_append_kp (by rfl) (.tmp 85) (.tmp 87) 42 (by rfl) (((KX.out.allocAt (wc.heap.size) (by simp) _).allocAt (wc.heap.size + 1) (by simp) _).allocAt (wc.heap.size + 1 + 1) (by simp) _).drew j0 (.int .i64 0) 8 Tryz.underlying42 hj hy0 hy1 hy2 (by rfl) (by decide) (by rfl) 2 _ _ _ (by rfl) 1 1 (by rfl) (by rfl) (by simp [Value.oneCell']) (by omega) (by omega) (by omega) ?_; intro g cap w1 hk; have KA := Lib.hid hk; clear hk)
                | (refine step_append_kp (by rfl) (.tmp 85) (.tmp 87) 42 (by rfl) KB.out.swap j0 (.int .i64 0) 8 Tryz.underlying42 hj hy0 hy1 hy2 (by rfl) (by decide) (by rfl) 0 _ _ _ (by rfl) 1 1 (by rfl) (by rfl) (by simp [Value.oneCell']) (by omega) (by omega) (by omega) ?_; intro g cap w1 hk; have KA := Lib.hid hk; clear hk)
                | (refine step_append_kp (by rfl) (.tmp 85) (.tmp 87) 42 (by rfl) KB.out.swap j0 (.int .i64 0) 8 Tryz.underlying42 hj hy0 hy1 hy2 (by rfl) (by decide) (by rfl) 1 _ _ _ (by rfl) 1 1 (by rfl) (by rfl) (by simp [Value.oneCell']) (by omega) (by omega) (by omega) ?_; intro g cap w1 hk; have KA := Lib.hid hk; clear hk)
                | (refine step_append_kp (by rfl) (.tmp 85) (.tmp 87) 42 (by rfl) KB.out.swap j0 (.int .i64 0) 8 Tryz.underlying42 hj hy0 hy1 hy2 (by rfl) (by decide) (by rfl) 2 _ _ _ (by rfl) 1 1 (by rfl) (by rfl) (by simp [Value.oneCell']) (by omega) (by omega) (by omega) ?_; intro g cap w1 hk; have KA := Lib.hid hk; clear hk)
                | (refine step_append_kp (by rfl) (.tmp 85) (.tmp 87) 42 (by rfl) (KB.out.swap.alloc _) j0 (.int .i64 0) 8 Tryz.underlying42 hj hy0 hy1 hy2 (by rfl) (by decide) (by rfl) 0 _ _ _ (by rfl) 1 1 (by rfl) (by rfl) (by simp [Value.oneCell']) (by omega) (by omega) (by omega) ?_; intro g cap w1 hk; have KA := Lib.hid hk; clear hk)
                | (refine step_append_kp (by rfl) (.tmp 89) (.tmp 99) 22 (by rfl) ((KX.out.allocAt (wc.heap.size) (by simp) _).allocAt (wc.heap.size + 1) (by simp) _).drew.swap i0 (.agg #[.int .i64 0, .bool false, .string ⟨#[]⟩]) 32 Tryz.underlying22 hi hz0 hz1 hz2 (by rfl) (by decide) (by rfl) 0 _ _ _ (by rfl) 1 1 (by rfl) (by rfl) (by simp [Value.oneCell']) (by omega) (by omega) (by omega) ?_; intro g cap w1 hk; have KB := Lib.hid hk; clear hk)
                | (refine step_append_kp (by rfl) (.tmp 89) (.tmp 99) 22 (by rfl) (((KX.out.allocAt (wc.heap.size) (by simp) _).allocAt (wc.heap.size + 1) (by simp) _).allocAt (wc.heap.size + 1 + 1) (by simp) _).drew.swap i0 (.agg #[.int .i64 0, .bool false, .string ⟨#[]⟩]) 32 Tryz.underlying22 hi hz0 hz1 hz2 (by rfl) (by decide) (by rfl) 0 _ _ _ (by rfl) 1 1 (by rfl) (by rfl) (by simp [Value.oneCell']) (by omega) (by omega) (by omega) ?_; intro g cap w1 hk; have KB := Lib.hid hk; clear hk)
                | (refine step_append_kp (by rfl) (.tmp 89) (.tmp 99) 22 (by rfl) (((KX.out.allocAt (wc.heap.size) (by simp) _).allocAt (wc.heap.size + 1) (by simp) _).allocAt (wc.heap.size + 1 + 1) (by simp) _).drew.swap i0 (.agg #[.int .i64 0, .bool false, .string ⟨#[]⟩]) 32 Tryz.underlying22 hi hz0 hz1 hz2 (by rfl) (by decide) (by rfl) 1 _ _ _ (by rfl) 1 1 (by rfl) (by rfl) (by simp [Value.oneCell']) (by omega) (by omega) (by omega) ?_; intro g cap w1 hk; have KB := Lib.hid hk; clear hk)
                | (refine step_append_kp (by rfl) (.tmp 89) (.tmp 99) 22 (by rfl) KA.out.swap i0 (.agg #[.int .i64 0, .bool false, .string ⟨#[]⟩]) 32 Tryz.underlying22 hi hz0 hz1 hz2 (by rfl) (by decide) (by rfl) 0 _ _ _ (by rfl) 1 1 (by rfl) (by rfl) (by simp [Value.oneCell']) (by omega) (by omega) (by omega) ?_; intro g cap w1 hk; have KB := Lib.hid hk; clear hk)
                | (refine step_append_kp (by rfl) (.tmp 89) (.tmp 99) 22 (by rfl) KA.out.swap i0 (.agg #[.int .i64 0, .bool false, .string ⟨#[]⟩]) 32 Tryz.underlying22 hi hz0 hz1 hz2 (by rfl) (by decide) (by rfl) 1 _ _ _ (by rfl) 1 1 (by rfl) (by rfl) (by simp [Value.oneCell']) (by omega) (by omega) (by omega) ?_; intro g cap w1 hk; have KB := Lib.hid hk; clear hk)
                | (refine step_append_kp (by rfl) (.tmp 89) (.tmp 99) 22 (by rfl) KA.out.swap i0 (.agg #[.int .i64 0, .bool false, .string ⟨#[]⟩]) 32 Tryz.underlying22 hi hz0 hz1 hz2 (by rfl) (by decide) (by rfl) 2 _ _ _ (by rfl) 1 1 (by rfl) (by rfl) (by simp [Value.oneCell']) (by omega) (by omega) (by omega) ?_; intro g cap w1 hk; have KB := Lib.hid hk; clear hk)
                | (refine step_append_kp (by rfl) (.tmp 89) (.tmp 99) 22 (by rfl) (KA.out.swap.alloc _) i0 (.agg #[.int .i64 0, .bool false, .string ⟨#[]⟩]) 32 Tryz.underlying22 hi hz0 hz1 hz2 (by rfl) (by decide) (by rfl) 0 _ _ _ (by rfl) 1 1 (by rfl) (by rfl) (by simp [Value.oneCell']) (by omega) (by omega) (by omega) ?_; intro g cap w1 hk; have KB := Lib.hid hk; clear hk)
                | (refine step_append_kp (by rfl) (.tmp 89) (.tmp 99) 22 (by rfl) ((KA.out.swap.alloc _).allocAt (w1.heap.size + 1) (by simp) _) i0 (.agg #[.int .i64 0, .bool false, .string ⟨#[]⟩]) 32 Tryz.underlying22 hi hz0 hz1 hz2 (by rfl) (by decide) (by rfl) 0 _ _ _ (by rfl) 1 1 (by rfl) (by rfl) (by simp [Value.oneCell']) (by omega) (by omega) (by omega) ?_; intro g cap w1 hk; have KB := Lib.hid hk; clear hk))
          all_goals
            go_wp2_with fail
            go_roundw
            case rel =>
              refine ⟨i + 1, by omega, by go_num, ?_⟩
              unfold Ch
              rw [HXE.out, HX.out, chR_snoc]
              first
                | rw [kind0]
                | rw [kind1]
                | rw [kind2]
              refine ⟨rfl, ?_⟩
              first
                | exact KB.out.drop.drop.drop.swap
                | exact KA.out.drop.drop.drop
            case measure => simp [intOf]; omega
      · obtain rfl : i = N := by omega
        have hall : goG K (fi * 1000) 0 (GT.take i) = D.all := by
          unfold D45.all
          rw [HDD.out.2.1, HDD.out.2.2.1, HDD.out.2.2.2, HGT.out, List.take_of_length_le (by have := HNn.out; omega)]
        have hk := HK.out
        rw [hall] at hk
        have hal : D.all.length = i := by rw [← hall, goG_len, List.length_take, HNn.out]; omega
        have HAl := Lib.hid hal
        clear hall hT3 hT4 HT HK HGat T0
        by_cases h0 : i = 0
        · subst h0
          have hnil : D.all = [] := List.length_eq_zero_iff.1 hal
          have hfst : D.fst = ⟨lo, ld, la⟩ := by unfold D45.fst; rw [if_pos hnil, HP.out, HA0.out]
          have hchg : D.chg = [] := by unfold D45.chg; rw [if_pos hnil]
          rw [hnil] at hk
          obtain ⟨a14, c14, rfl⟩ : ∃ a c, u14 = .slice a 0 c := own_slice (hk.row 1 rfl)
          have KX := Lib.hid hk
          have HR := Lib.hid (And.intro hfst hchg)
          clear hk hal hnil hfst hchg hmin hmax0
          obtain ⟨⟨x0, x1, x2⟩, _, _, _⟩ := row3 (KX.out.at 0 rfl)
          obtain ⟨⟨y0, y1, y2⟩, t0, t1, t2⟩ := row3 (KX.out.at 2 rfl)
          have z1 := KX.out.lt 2 rfl
          go_wp2_with fail
          refine bodyPost_ret (v := .tuple #[.agg #[.int .i64 lo, .bool ld, .string la], u13, .slice a14 0 c14, .string (bs S), .bool true]) (by simp [results, Tryz.results20, go_sem, y0, y1, y2]) rfl ?_
          have KS := Lib.hid ((((KX.out.set 2 rfl 0 (.int .i64 lo) rfl).set 2 rfl 1 (.bool ld) rfl).set 2 rfl 2 (.string la) rfl).pick (List.nil_sublist _))
          rw [HR.out.1, HR.out.2, HP.out, HS.out]
          exact ⟨_, _, rfl, KS.out⟩
        · obtain ⟨M, rfl⟩ : ∃ M, i = M + 1 := ⟨i - 1, by omega⟩
          have hne : D.all ≠ [] := by intro e; rw [e] at hal; cases hal
          obtain ⟨l', hl'⟩ := last_split hne
          obtain ⟨dl, hdl⟩ : ∃ dl, D.all.dropLast = dl := ⟨_, rfl⟩
          obtain ⟨lt, hlt'⟩ : ∃ lt, D.last = lt := ⟨_, rfl⟩
          have hchg : D.chg = dl ++ [(lt, D.end_)] := by unfold D45.chg; rw [if_neg hne, hdl, hlt']
          have hfst : D.fst = firstL := by unfold D45.fst; rw [if_neg hne]
          rw [hdl, hlt'] at hl'
          have hdlen : dl.length = M := by rw [hl', List.length_append] at hal; simp at hal; exact hal
          obtain ⟨b0, b1⟩ := last_bd D HIn.out
          rw [hlt'] at b0 b1
          obtain ⟨q1, q2, q3, q4⟩ := atL_cut HC.out b0 b1
          have CA2 := CA.out lt
          rw [q1] at CA2
          have hend : D.end_ = (atL ⟨a, b.tmod 50000, c, o', ⟨e1, e2, e3, e4, e5⟩, ⟨p1, p2, p3, p4, p5⟩⟩ lt).1 := by unfold D45.end_; rw [HP.out, hlt']
          obtain ⟨A2, hA2⟩ : ∃ A2, (atL ⟨a, b.tmod 50000, c, o', ⟨e1, e2, e3, e4, e5⟩, ⟨p1, p2, p3, p4, p5⟩⟩ lt).1 = A2 := ⟨_, rfl⟩
          rw [hA2] at CA2 hend
          obtain ⟨mo, md, ma⟩ := A2
          have CA3 := Lib.hid CA2
          unfold Pos.val Lc.val at CA3
          dsimp only at CA3
          rw [hend] at hchg
          rw [hl'] at hk
          have hk2 : Kp [(V3.heap.size, .cells #[.int .i64 lo, .bool ld, .string la] 28 (0, 0)), (V.heap.size, .cells #[.string a, .int .i64 (b.tmod 50000), .string c, .int .i64 o', .int .i64 e1, .int .i64 e2, .int .i64 e3, .int .i64 e4, .int .i64 e5, .int .i64 p1, .int .i64 p2, .int .i64 p3, .int .i64 p4, .int .i64 p5] 50 (0, 0)), (W.heap.size + 1, .cells #[.int .i64 0, .bool false, .string ⟨#[]⟩] 28 (0, 0)), (W.heap.size, .cells #[.int .u8 n0, .int .u8 n1, .int .u8 o0, .int .u8 o1, .int .u8 k0, .int .u8 k1, .int .u8 d0, .int .u8 d1, .int .u8 s0, .int .u8 s1, .bool q, .int .i32 fi, .slice ga G.length gc, .slice ka K.length kc] 41 (0, 0))] [⟨u14, 28, 3, (dl ++ [(lt, l')]).length, ((dl ++ [(lt, l')]).map Prod.snd).flatMap Lc.cells⟩, ⟨u13, 2, 1, (dl ++ [(lt, l')]).length, (dl ++ [(lt, l')]).map (fun x => Value.int .i64 x.1)⟩] W wr := hk.swap
          have hlen1 : (dl ++ [(lt, l')]).length = M + 1 := by simp [hdlen]
          rw [hlen1] at hk2
          obtain ⟨g14, cap14, cur, rfl, hk3, v1, v2, v3, v4⟩ := hk2.known_of (by omega)
          obtain ⟨g13, cap13, e13, w1, w2, w3, _⟩ : ∃ g cap, u13 = .slice (some ⟨g, 0, none⟩) (M + 1) cap ∧ M + 1 ≤ cap ∧ cap ≤ maxLen ∧ g < wr.heap.size ∧ ∀ (j : Nat) (u : Value), ((dl ++ [(lt, l')]).map (fun x => Value.int .i64 x.1))[j]? = some u → wr.cell? ⟨g, j, none⟩ = some u := by
            rcases own_cells (hk3.row 0 rfl) with ⟨h0, _⟩ | ⟨g, cap, e, h1, h2, h3, h4⟩
            · cases h0
            · exact ⟨g, cap, e, h1, h2, h3, h4⟩
          subst e13
          have hatM : ((dl ++ [(lt, l')]).map (fun x => Value.int .i64 x.1))[M]? = some (.int .i64 lt) := by rw [List.getElem?_map, List.getElem?_append_right (by omega), hdlen]; simp
          have HatM := Lib.hid hatM
          have HR := Lib.hid (And.intro hfst hchg)
          have HV4 := Lib.hid (And.intro v3 v4)
          have HDl := Lib.hid hdlen
          have KX := Lib.hid hk3
          unfold maxLen at v2 w2
          have KY := Lib.hid (((hk3.set 1 rfl 0 (.int .i64 59) rfl).set 1 rfl 1 (.bool false) rfl).set 1 rfl 2 (.string ⟨#[65, 65, 65]⟩) rfl)
          have hn1 : (0 : Int) < ((M + 1 : Nat) : Int) := by omega
          have hM1 : (M : Int) + 1 - 1 = (M : Int) := by omega
          have hMb : (M : Int) < (M : Int) + 1 := by omega
          have hM0 : (0 : Int) ≤ (M : Int) := by omega
          have hMw : IntKind.i64.wrap (M : Int) = (M : Int) := IntWalk.i64_in _ (by omega)
          have hcs : (M + 1) * 3 ≤ cur.size := by rw [v3]; exact Nat.mul_le_mul_right _ v1
          clear hk hk2 hk3 hal hne hl' hdl hlt' hchg hfst hdlen b0 b1 q1 q2 q3 q4 CA2 hend hA2 hatM v4 hlen1 hmin hmax0
          obtain ⟨⟨x0, x1, x2⟩, s0', s1', s2'⟩ := row3 (KX.out.at 1 rfl)
          have z0 := KX.out.lt 1 rfl
          go_upto_region 22 with fail
          go_cut [19, 20] (fun v19 v20 wx => ∃ b19, v19 = .pointer (some ⟨b19, 0, none⟩) ∧ v20 = .int .i64 0 ∧ Kp [(b19, .cells #[.int .i64 mo, .bool md, .string ma] 28 (0, 0)), (g14, .cells cur 28 (0, 0)), (V3.heap.size, .cells #[.int .i64 59, .bool false, .string ⟨#[65, 65, 65]⟩] 28 (0, 0)), (V.heap.size, .cells #[.string a, .int .i64 (b.tmod 50000), .string c, .int .i64 o', .int .i64 e1, .int .i64 e2, .int .i64 e3, .int .i64 e4, .int .i64 e5, .int .i64 p1, .int .i64 p2, .int .i64 p3, .int .i64 p4, .int .i64 p5] 50 (0, 0)), (W.heap.size + 1, .cells #[.int .i64 0, .bool false, .string ⟨#[]⟩] 28 (0, 0)), (W.heap.size, .cells #[.int .u8 n0, .int .u8 n1, .int .u8 o0, .int .u8 o1, .int .u8 k0, .int .u8 k1, .int .u8 d0, .int .u8 d1, .int .u8 s0, .int .u8 s1, .bool q, .int .i32 fi, .slice ga G.length gc, .slice ka K.length kc] 41 (0, 0))] [⟨.slice (some ⟨g13, 0, none⟩) (M + 1) cap13, 2, 1, M + 1, (dl ++ [(lt, l')]).map (fun x => Value.int .i64 x.1)⟩] W wx)
          case first =>
            have KY0 := Lib.hid (KY.out.drew)
            have KY1 := Lib.hid (KY.out.allocAt wr.heap.size (by simp) (.cells #[.int .i64 0, .bool false, .string ⟨#[]⟩] 28)).drew
            obtain ⟨a0, a1, a2, a3, a4, a5, a6, a7, a8, a9, a10, a11, a12, a13⟩ := row14 (KY.out.at 2 rfl)
            obtain ⟨c0, c1, c2, c3, c4, c5, c6, c7, c8, c9, c10, c11, c12, c13⟩ := row14 (KY1.out.at 3 rfl)
            have at0 := own_cell (KY.out.row 0 rfl) HatM.out
            have at1 := own_cell (KY1.out.row 0 rfl) HatM.out
            have nf1 : wr.heap.size ≠ V.heap.size := by have := KX.out.lt 2 rfl; omega
            have nf2 : wr.heap.size ≠ g13 := by omega
            clear x0 x1 x2 s0' s1' s2' z0
            go_region_held3 (fun w' => w'.cell? ⟨V.heap.size, 0, none⟩ = some (.string a) ∧ w'.cell? ⟨V.heap.size, 1, none⟩ = some (.int .i64 (b.tmod 50000)) ∧ w'.cell? ⟨V.heap.size, 2, none⟩ = some (.string c) ∧ w'.cell? ⟨V.heap.size, 3, none⟩ = some (.int .i64 o') ∧ w'.cell? ⟨V.heap.size, 4, none⟩ = some (.int .i64 e1) ∧ w'.cell? ⟨V.heap.size, 5, none⟩ = some (.int .i64 e2) ∧ w'.cell? ⟨V.heap.size, 6, none⟩ = some (.int .i64 e3) ∧ w'.cell? ⟨V.heap.size, 7, none⟩ = some (.int .i64 e4) ∧ w'.cell? ⟨V.heap.size, 8, none⟩ = some (.int .i64 e5) ∧ w'.cell? ⟨V.heap.size, 9, none⟩ = some (.int .i64 p1) ∧ w'.cell? ⟨V.heap.size, 10, none⟩ = some (.int .i64 p2) ∧ w'.cell? ⟨V.heap.size, 11, none⟩ = some (.int .i64 p3) ∧ w'.cell? ⟨V.heap.size, 12, none⟩ = some (.int .i64 p4) ∧ w'.cell? ⟨V.heap.size, 13, none⟩ = some (.int .i64 p5) ∧ w'.cell? ⟨g13, M, none⟩ = some (.int .i64 lt)) (go_keep)
              (first
                | (go_at_call 23; refine (CA3.out _ (HE.out.keep KY0.out.below)).mono ?_; rintro _ V4 ⟨rfl, hb⟩; have KA := Lib.hid (KY0.out.keep hb); obtain ⟨d0, d1, d2, d3, d4, d5, d6, d7, d8, d9, d10, d11, d12, d13⟩ := row14 (KA.out.at 2 rfl); have at2 := own_cell (KA.out.row 0 rfl) HatM.out; clear hb)
                | (go_at_call 23; refine (CA3.out _ (HE.out.keep KY1.out.below)).mono ?_; rintro _ V4 ⟨rfl, hb⟩; have KA := Lib.hid (KY1.out.keep hb); obtain ⟨d0, d1, d2, d3, d4, d5, d6, d7, d8, d9, d10, d11, d12, d13⟩ := row14 (KA.out.at 3 rfl); have at2 := own_cell (KA.out.row 0 rfl) HatM.out; obtain ⟨⟨r0, r1, r2⟩, f0', f1', f2'⟩ := row3 (KA.out.at 0 rfl); clear hb))
            all_goals
              go_wp2_with fail
              go_meet
              first
                | exact ⟨_, rfl, rfl, KA.out.alloc _⟩
                | exact ⟨_, rfl, rfl, ((KA.out.set 0 rfl 0 _ rfl).set 0 rfl 1 _ rfl).set 0 rfl 2 _ rfl⟩
          case rest =>
            obtain ⟨b19, rfl, rfl, hk⟩ := hcut
            have KZ := Lib.hid hk
            clear hk KX KY x0 x1 x2 s0' s1' s2' z0
            obtain ⟨⟨l0, l1, l2⟩, _, _, _⟩ := row3 (KZ.out.at 0 rfl)
            obtain ⟨⟨x0, x1, x2⟩, _, _, _⟩ := row3 (KZ.out.at 2 rfl)
            obtain ⟨⟨y0, y1, y2⟩, t0, t1, t2⟩ := row3 (KZ.out.at 4 rfl)
            have z1 := KZ.out.lt 1 rfl
            have z4 := KZ.out.lt 4 rfl
            have hc : ∀ j, j < cur.size → wc.cell? ⟨g14, j, none⟩ = some (cur.getD j undef) := fun j hj => by
              rw [cells_at (KZ.out.at 1 rfl) j]
              simp [Array.getD, hj]
            have m0 := hc (M * 3) (by omega)
            have m1 := hc (M * 3 + 1) (by omega)
            have m2 := hc (M * 3 + 2) (by omega)
            have e0 := free_at (KZ.out.at 1 rfl) (M * 3)
            have e1' := free_at (KZ.out.at 1 rfl) (M * 3 + 1)
            have e2' := free_at (KZ.out.at 1 rfl) (M * 3 + 2)
            clear hc
            have ne1 : g14 ≠ V3.heap.size := KZ.out.known.other (j := 1) (k := 2) rfl rfl (by decide)
            have ne2 : V3.heap.size ≠ g14 := Ne.symm ne1
            have ne3 : g14 ≠ W.heap.size + 1 := KZ.out.known.other (j := 1) (k := 4) rfl rfl (by decide)
            have ne4 : W.heap.size + 1 ≠ g14 := Ne.symm ne3
            go_wp2_with fail
            refine bodyPost_ret (v := .tuple #[.agg #[.int .i64 59, .bool false, .string ⟨#[65, 65, 65]⟩], .slice (some ⟨g13, 0, none⟩) (M + 1) cap13, .slice (some ⟨g14, 0, none⟩) (M + 1) cap14, .string (bs S), .bool true]) (by simp [results, Tryz.results20, go_sem, y0, y1, y2]) rfl ?_
            have KS := Lib.hid ((((((KZ.out.set 1 rfl (M * 3) (.int .i64 mo) rfl).set 1 rfl (M * 3 + 1) (.bool md) rfl).set 1 rfl (M * 3 + 2) (.string ma) rfl).set 4 rfl 0 (.int .i64 59) rfl).set 4 rfl 1 (.bool false) rfl).set 4 rfl 2 (.string ⟨#[65, 65, 65]⟩) rfl)
            have KT := Lib.hid (KS.out.pick (M := [(g14, .cells (((cur.setIfInBounds (M * 3) (.int .i64 mo)).setIfInBounds (M * 3 + 1) (.bool md)).setIfInBounds (M * 3 + 2) (.string ma)) 28 (0, 0))]) (by simp))
            have KU := Lib.hid (KT.out.own_block 3 (M + 1) cap14 v1 (by unfold maxLen; exact v2) (by simp only [Array.size_setIfInBounds]; exact HV4.out.1)).swap
            rw [HR.out.1, HR.out.2, HP.out, HS.out]
            refine ⟨_, _, rfl, ?_⟩
            rw [chR_snoc, HDl.out]
            have hx := KU.out
            rw [set3 hcs] at hx
            have ht : cur.toList.take (M * 3) = (dl.map Prod.snd).flatMap Lc.cells := by
              have h4 := congrArg (List.take (M * 3)) HV4.out.2
              rw [List.take_take, Nat.min_eq_left (by omega), List.map_append, List.flatMap_append, List.take_left' (by rw [lc_len, List.length_map, HDl.out])] at h4
              exact h4
            rw [ht, List.map_append] at hx
            exact hx
end Go.Proofs.YtlaplgaccjmbhaaGreatDoor.Px

