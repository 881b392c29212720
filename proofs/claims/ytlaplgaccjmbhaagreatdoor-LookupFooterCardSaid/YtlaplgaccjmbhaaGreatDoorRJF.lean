/- The law LookupFooter returns true for every table by numbers, instant and number of transitions left out: the walk. -/
import Derived.Test.YtlaplgaccjmbhaaGreatDoorRJ6
import Derived.Test.YtlaplgaccjmbhaaGreatDoorRJ3
import Derived.Deep.RegionHeldLaw
namespace Go.Proofs.YtlaplgaccjmbhaaGreatDoor.Tb
open Px
/-- the last transitions of a draft's table, as changes -/
def lastC (T : Tab) (k : Nat) : List (Int × Lc) := (T.trans.drop k).map (fun t => (t.at', T.types.getD t.ty.toNat Lc.zero))
theorem lastC_len (T : Tab) (k : Nat) : (lastC T k).length = T.trans.length - k := by unfold lastC; rw [List.length_map, List.length_drop]
theorem lastC_at {T : Tab} {k i n : Nat} {a : Int} {y : Lc} (hc : T.trans[k + i]? = some ⟨a, (n : Int)⟩) (hy : T.types[n]? = some y) : (lastC T k)[i]? = some (a, y) := by
  unfold lastC
  rw [List.getElem?_map, List.getElem?_drop, hc]
  simp [List.getD, hy]
end Go.Proofs.YtlaplgaccjmbhaaGreatDoor.Tb
namespace Go.Proofs.YtlaplgaccjmbhaaGreatDoor.Px
open Go.RowKit
open Civ Tb
/-- the table of the last transitions alone is made -/
theorem ofT_last (d : D45) (h : d.In) {k : Nat} (hk : k < d.made.trans.length) : ∃ Z : Tab, ofT zzzL ((lastC d.made k).map Prod.fst) ((lastC d.made k).map Prod.snd) (printL d.pos) = (Z, 0) ∧ Z.foot = printL d.pos ∧ Z.trans.length ≤ d.made.trans.length ∧
    ∀ t, d.made.last.at' ≤ t → t ≤ 36028797018963968 → lookL Z t = atL d.pos t := by
  obtain ⟨h1, h2⟩ := foot_alone d h hk (c := lastC d.made k) rfl
  refine ⟨⟨(ofGo [zzzL] [] zzzL (lastC d.made k)).1, (ofGo [zzzL] [] zzzL (lastC d.made k)).2, printL d.pos⟩, ?_, rfl, ?_, h2⟩
  · unfold ofT
    rw [if_neg (by simp), zip_fst_snd, if_pos h1]
  · have := ofGo_len (lastC d.made k) [zzzL] [] zzzL
    rw [lastC_len] at this
    simp only [List.length_nil] at this
    dsimp only
    omega
theorem ofT_none (d : D45) (h : d.In) : ofT (atL d.pos 0).1 [] [] (printL d.pos) = (⟨[(atL d.pos 0).1], [], printL d.pos⟩, 0) := by
  obtain ⟨h1, _⟩ := foot_none d h (t := 0) (by omega) (by omega)
  unfold ofT
  rw [if_neg (by simp)]
  show (if checkE ⟨[(atL d.pos 0).1], [], printL d.pos⟩ = 0 then ((⟨[(atL d.pos 0).1], [], printL d.pos⟩ : Tab), (0 : Int)) else _) = _
  rw [if_pos h1]
theorem lastC_fit {T : Tab} (hr : checkE T = 0) (hf : TabFit T) (k : Nat) : (∀ l ∈ (lastC T k).map Prod.snd, Lc.Fit l) ∧ ∀ t ∈ (lastC T k).map Prod.fst, (Lit.int .i64 t).wf = true := by
  have hty := (transGo_ok _ _ _ _ (check_zero hr).2.1).ty
  constructor
  · intro l hl
    obtain ⟨x, hx, rfl⟩ := List.mem_map.1 hl
    obtain ⟨z, hz, rfl⟩ := List.mem_map.1 hx
    have h1 := hty z (List.mem_of_mem_drop hz)
    dsimp only
    rw [getD_mem (by omega)]
    exact hf.lcs _ (List.getElem_mem _)
  · intro t ht
    obtain ⟨x, hx, rfl⟩ := List.mem_map.1 ht
    obtain ⟨z, hz, rfl⟩ := List.mem_map.1 hx
    exact (hf.trs z (List.mem_of_mem_drop hz)).1
theorem zzz_fit : Lc.Fit zzzL := ⟨by kernel_rfl, of_decide_eq_true (by kernel_rfl)⟩
set_option maxHeartbeats 16000000 in
set_option maxRecDepth 100000 in
theorem footer_cells (n0 n1 o0 o1 k0 k1 d0 d1 s0 s1 : Int) (q : Bool) (fi : Int) (G K : List Int) (gv kv : Value) (t less : Int) (W : World) (h : D45V W gv kv ⟨⟨n0, n1, o0, o1, k0, k1, d0, d1, s0, s1, q⟩, fi, G, K⟩) (hin : D45.In ⟨⟨n0, n1, o0, o1, k0, k1, d0, d1, s0, s1, q⟩, fi, G, K⟩)
    (l0 : 0 ≤ less) (l1 : less ≤ 255) (hE : EnvAt W) :
    Calls Tryz.prog 6 #[.agg #[.int .u8 n0, .int .u8 n1, .int .u8 o0, .int .u8 o1, .int .u8 k0, .int .u8 k1, .int .u8 d0, .int .u8 d1, .int .u8 s0, .int .u8 s1, .bool q, .int .i32 fi, gv, kv], .int .i64 t, .int .u8 less] W fun e w' => e = .returned (.bool true) ∧ Below W.heap.size W w' := by
  have CM := Lib.hid (fun w h hE => made45_any n0 n1 o0 o1 k0 k1 d0 d1 s0 s1 q fi G K gv kv w h hin hE)
  have CW := Lib.hid (fun w hE => works45_any w hE)
  obtain ⟨D, hD⟩ : ∃ D, (⟨⟨n0, n1, o0, o1, k0, k1, d0, d1, s0, s1, q⟩, fi, G, K⟩ : D45) = D := ⟨_, rfl⟩
  rw [hD] at CM h hin
  obtain ⟨ga, gc, hgv, _, _⟩ := h.gaps.slice
  obtain ⟨ka, kc, hkv, _, _⟩ := h.kinds.slice
  obtain ⟨gn, hgn⟩ : ∃ n, D.gaps.length = n := ⟨_, rfl⟩
  obtain ⟨kn, hkn⟩ : ∃ n, D.kinds.length = n := ⟨_, rfl⟩
  rw [hgn] at hgv
  rw [hkn] at hkv
  subst hgv hkv
  have hr := made45_right D hin
  have hlen := made45_len D
  have hcut := cut_is D.foot hin.fo
  have z1 : D.pos.std.size ≤ 7 := hcut.s0
  have z2 : D.pos.dst.size ≤ 7 := hcut.s1
  have hfo : D.made.foot = printL D.pos := rfl
  obtain ⟨t', ht'⟩ : ∃ t', t.tmod 36028797018963969 = t' := ⟨_, rfl⟩
  have t0 : -36028797018963968 ≤ t' ∧ t' ≤ 36028797018963968 := by
    rw [← ht']
    have h1 := Int.lt_tmod_of_pos t (b := 36028797018963969) (by decide)
    have h2 := Int.tmod_lt_of_pos t (b := 36028797018963969) (by decide)
    omega
  obtain ⟨t0, t1⟩ := t0
  have CP := Lib.hid (fun w hE => parse_any (printL D.pos) w hE)
  rw [fin_two, show finG rfF (printL D.pos) = (D.pos, 0) from hcut.back] at CP
  have hA0 : (atL D.pos 0).2 = 0 := (atL_cut hcut (t := 0) (by omega) (by omega)).1
  have CA := Lib.hid (fun w hE => atL_any D.pos 0 (by omega) (by omega) w hE)
  have CO := Lib.hid (fun w hE => of_any (atL D.pos 0).1 [] [] (.slice none 0 0) (.slice none 0 0) (printL D.pos) w (IsV.nil w .i64) (LcV.nil w) (fun c h => by simp at h; exact h.symm) (cut_fit hcut (by omega) (by omega)) (fun x hx => by cases hx) (fun x hx => by cases hx) hE (by simp))
  rw [show ofT (atL D.pos 0).1 [] [] (printL D.pos) = (⟨[(atL D.pos 0).1], [], printL D.pos⟩, 0) from ofT_none D hin] at CO
  have HS := Lib.hid (fun t h0 h1 h2 => foot_self D hin (t := t) h0 h1 h2)
  have HNo := Lib.hid (fun t h1 h2 => (foot_none D hin (t := t) h1 h2).2)
  have HL := Lib.hid (fun k hk => ofT_last D hin (k := k) hk)
  have HA1 := Lib.hid (show ∀ y : Int, -36028797018963968 ≤ y → y ≤ 36028797018963968 → (atL D.pos y).2 = 0 from fun y y0 y1 => (atL_cut hcut (t := y) y0 y1).1)
  have HMid := Lib.hid (fun m => right_mid hr (m := m))
  have HFit := Lib.hid (fun hf k => lastC_fit hr hf k)
  have htr := (transGo_ok _ _ _ _ (check_zero hr).2.1).rng
  obtain ⟨⟨⟨fo, fd, fa⟩, ee⟩, hA⟩ : ∃ A, atL D.pos 0 = A := ⟨_, rfl⟩
  obtain ⟨S, hS⟩ : ∃ S, printL D.pos = S := ⟨_, rfl⟩
  obtain ⟨T, hT⟩ : ∃ T, D.made = T := ⟨_, rfl⟩
  obtain ⟨P, hP⟩ : ∃ P, D.pos = P := ⟨_, rfl⟩
  rw [hS] at CP CO hfo HNo HL
  rw [hA] at CA CO hA0 HNo
  rw [hT] at CM HS HL HMid HFit htr hlen hr hfo
  rw [hP] at CP CA HS HNo HL HA1
  rw [hfo] at CM
  dsimp only at hA0 CO HNo
  subst hA0
  have CL := Lib.hid (fun t tv rv w h hE => look_any T tv rv (bs S) t w h hE (by omega))
  obtain ⟨Y, hY⟩ : ∃ Y, (⟨[⟨fo, fd, fa⟩], [], S⟩ : Tab) = Y := ⟨_, rfl⟩
  have hYf : Y.foot = S := by rw [← hY]
  have hYl : Y.trans.length ≤ 1000000000000 := by rw [← hY]; simp
  rw [hY] at CO HNo
  have CY := Lib.hid (fun t tv rv w h hE => look_any Y tv rv (bs S) t w h hE hYl)
  obtain ⟨N, hN⟩ : ∃ n, T.trans.length = n := ⟨_, rfl⟩
  obtain ⟨M, hM⟩ : ∃ n, T.types.length = n := ⟨_, rfl⟩
  rw [hN] at HL HMid hlen
  have hlast : ∀ n, N = n + 1 → ∃ x, T.trans[n]? = some x ∧ T.last = x := by
    intro n hn
    obtain ⟨x, hx⟩ : ∃ x, T.trans[n]? = some x := ⟨_, List.getElem?_eq_getElem (by omega)⟩
    exact ⟨x, hx, last_of (by omega) hx⟩
  have HLa := Lib.hid hlast
  have HTr := Lib.hid htr
  obtain ⟨a, b, c, o, ⟨e1, e2, e3, e4, e5⟩, ⟨p1, p2, p3, p4, p5⟩⟩ := P
  unfold Pos.val at CP CA
  unfold Lc.val at CA CO
  dsimp only at CP CA CO
  have HN := Lib.hid hN
  have HM := Lib.hid hM
  have HFo := Lib.hid hfo
  have HYf := Lib.hid hYf
  have HH := Lib.hid h
  have HE := Lib.hid hE
  have K0 := Lib.hid ((Kp.start W).alloc (.cells #[.int .u8 n0, .int .u8 n1, .int .u8 o0, .int .u8 o1, .int .u8 k0, .int .u8 k1, .int .u8 d0, .int .u8 d1, .int .u8 s0, .int .u8 s1, .bool q, .int .i32 fi, .slice ga gn gc, .slice ka kn kc] 41))
  obtain ⟨j0, hj, hy0, hy1, hy2⟩ := info_parts infoI64
  obtain ⟨i0, hi, hz0, hz1, hz2⟩ := info_parts infoLc
  clear h hE hin hD hgn hkn hcut z1 z2 hA hS hT hP hfo hN hM hr htr hlast hY hYf hYl
  go_enter Tryz.func6, Tryz.ntmps6
  go_wp2_with fail
  refine (CM.out _ (HH.out.keep K0.out.below) (HE.out.keep K0.out.below)).mono ?_
  rintro _ V ⟨tv, rv, rfl, hk, hf⟩
  have hk1 := K0.out.adopt hk
  obtain ⟨ta, tc, rfl⟩ : ∃ a c, tv = .slice a T.types.length c := own_slice (hk1.row 1 rfl)
  obtain ⟨ra, rc, rfl⟩ : ∃ a c, rv = .slice a T.trans.length c := own_slice (hk1.row 0 rfl)
  rw [HN.out, HM.out] at hk1 ⊢
  have K1 := Lib.hid (hk1.alloc (.cells #[.slice ta M tc, .slice ra N rc, .string (bs S)] 25))
  have HF := Lib.hid hf
  have HTV : Hid (∀ {L : List (Nat × Obj)} {R : List Rw} {tv rv : Value} {X : World}, Kp L (tabR tv rv T ++ R) W X → TabV X tv rv (bs S) T) := Lib.hid (by
    intro h
    rw [← HFo.out]
    exact h.tab hf)
  clear hk hk1 hf
  go_wp2_with fail
  refine (CP.out _ (HE.out.keep K1.out.below)).mono ?_
  rintro _ V2 ⟨rfl, hb⟩
  have K2 := Lib.hid ((K1.out.keep hb).alloc (.cells #[.string a, .int .i64 b, .string c, .int .i64 o, .int .i64 e1, .int .i64 e2, .int .i64 e3, .int .i64 e4, .int .i64 e5, .int .i64 p1, .int .i64 p2, .int .i64 p3, .int .i64 p4, .int .i64 p5] 50))
  clear hb
  go_wp2_with fail
  refine (CA.out _ (HE.out.keep K2.out.below)).mono ?_
  rintro _ V3 ⟨rfl, hb⟩
  have K3 := Lib.hid (K2.out.keep hb)
  have K4 := Lib.hid (K3.out.alloc (.cells #[.int .i64 fo, .bool fd, .string fa] 28))
  clear hb
  obtain ⟨⟨x0, x1, x2⟩, _, _, _⟩ := row3 (K3.out.at 1 rfl)
  have z0 := K3.out.lt 1 rfl
  go_wp2_with fail
  refine (CO.out _ (HE.out.keep K4.out.below)).mono ?_
  rintro _ V4 ⟨yv, zv, rfl, hk, hf⟩
  have hk1 := K4.out.adopt hk
  obtain ⟨yn, hyn⟩ : ∃ n, Y.types.length = n := ⟨_, rfl⟩
  obtain ⟨zn, hzn⟩ : ∃ n, Y.trans.length = n := ⟨_, rfl⟩
  obtain ⟨ya, yc, rfl⟩ : ∃ a c, yv = .slice a Y.types.length c := own_slice (hk1.row 1 rfl)
  obtain ⟨za, zc, rfl⟩ : ∃ a c, zv = .slice a Y.trans.length c := own_slice (hk1.row 0 rfl)
  rw [hyn, hzn] at hk1 ⊢
  have K5 := Lib.hid (hk1.alloc (.cells #[.slice ya yn yc, .slice za zn zc, .string (bs S)] 25))
  have HTY : Hid (∀ {L : List (Nat × Obj)} {R : List Rw} {tv rv : Value} {X : World}, Kp L (tabR tv rv Y ++ R) W X → TabV X tv rv (bs S) Y) := Lib.hid (by
    intro h
    rw [← HYf.out]
    exact h.tab hf)
  have K6 := Lib.hid hk1
  clear hk hk1 hf hyn hzn x0 x1 x2 z0
  obtain ⟨⟨x0, x1, x2⟩, _, _, _⟩ := row3 (K6.out.at 2 rfl)
  have z0 := K6.out.lt 2 rfl
  go_upto_if 70 with fail
  go_cut [1] (fun v1 wx => ∃ t2, v1 = .int .i64 t2 ∧ -36028797018963968 ≤ t2 ∧ t2 ≤ 36028797018963968 ∧ lookL T t2 = atL ⟨a, b, c, o, ⟨e1, e2, e3, e4, e5⟩, ⟨p1, p2, p3, p4, p5⟩⟩ t2 ∧ Kp [(V4.heap.size, .cells #[.slice ya yn yc, .slice za zn zc, .string (bs S)] 25 (0, 0)), (V3.heap.size, .cells #[.int .i64 fo, .bool fd, .string fa] 28 (0, 0)), (V2.heap.size, .cells #[.string a, .int .i64 b, .string c, .int .i64 o, .int .i64 e1, .int .i64 e2, .int .i64 e3, .int .i64 e4, .int .i64 e5, .int .i64 p1, .int .i64 p2, .int .i64 p3, .int .i64 p4, .int .i64 p5] 50 (0, 0)), (V.heap.size, .cells #[.slice ta M tc, .slice ra N rc, .string (bs S)] 25 (0, 0)), (W.heap.size, .cells #[.int .u8 n0, .int .u8 n1, .int .u8 o0, .int .u8 o1, .int .u8 k0, .int .u8 k1, .int .u8 d0, .int .u8 d1, .int .u8 s0, .int .u8 s1, .bool q, .int .i32 fi, .slice ga gn gc, .slice ka kn kc] 41 (0, 0))] (tabR (.slice ya yn yc) (.slice za zn zc) Y ++ (tabR (.slice ta M tc) (.slice ra N rc) T ++ [])) W wx)
  case first =>
    by_cases hN0 : N = 0
    · have c0 : ¬ (0 : Int) < (N : Int) := by omega
      have HN0 := Lib.hid hN0
      clear hN0
      go_wp2_with fail
      go_meet
      exact ⟨t', rfl, by omega, by omega, HS.out t' (.inl (List.length_eq_zero_iff.1 (HN.out.trans HN0.out))) t0 t1, K5.out⟩
    · obtain ⟨n, hn⟩ : ∃ n, N = n + 1 := ⟨N - 1, by omega⟩
      obtain ⟨⟨ta', ty'⟩, hx, hl⟩ := HLa.out n hn
      have hb := HTr.out _ (List.mem_of_getElem? hx)
      dsimp only at hb
      obtain ⟨b0, b1⟩ := hb
      obtain ⟨t2, ht2⟩ : ∃ t2, max t' ta' = t2 := ⟨_, rfl⟩
      have hge : ta' ≤ t2 ∧ -36028797018963968 ≤ t2 ∧ t2 ≤ 36028797018963968 := by omega
      obtain ⟨g0, g1, g2⟩ := hge
      have hlk := HS.out t2 (.inr (by rw [hl]; exact g0)) g1 g2
      obtain ⟨k, hk⟩ : ∃ k, less.toNat % N = k := ⟨_, rfl⟩
      have hkN : k < N := by rw [← hk]; exact Nat.mod_lt _ (by omega)
      have hk1 : less % (N : Int) = (k : Int) := by
        rw [← hk]
        obtain ⟨m, rfl⟩ : ∃ m : Nat, less = (m : Int) := ⟨less.toNat, by omega⟩
        simp
      have hk2 : less.tmod (N : Int) = (k : Int) := by rw [Int.tmod_eq_emod_of_nonneg l0]; exact hk1
      have hI : (N : Int) - 1 = (n : Int) := by omega
      have c0 : (0 : Int) < (N : Int) := by omega
      have c1 : ¬ (N : Int) = 0 := by omega
      have c2 : (n : Int) < (N : Int) := by omega
      have c3 : (k : Int) < (N : Int) := by omega
      have c4 : (k : Int) ≤ (N : Int) := by omega
      have hlast : T.last.at' = ta' := by rw [hl]
      have HLk := Lib.hid hlk
      have HLast := Lib.hid hlast
      have HKN := Lib.hid hkN
      obtain ⟨Z, z1, z2, z3, z4⟩ := HL.out k hkN
      have HZ := Lib.hid (And.intro z1 (And.intro z2 (And.intro z3 z4)))
      obtain ⟨g, rfl, -, hrc, hrc2, hg⟩ := own_some (K6.out.row 2 rfl) (Nat.lt_of_lt_of_eq (by omega) HN.out.symm)
      rw [HN.out] at hrc
      unfold maxLen at hrc2
      obtain ⟨d1', _⟩ := tr_cell (K6.out.row 2 rfl) hx
      dsimp only at d1'
      clear hn hx hl hlk hk hlast z1 z2 z3 z4 b0 b1 hkN hN0
      go_upto_region 17 with fail
      obtain ⟨m, hm⟩ : ∃ m, N - k = m := ⟨_, rfl⟩
      rw [hm]
      obtain ⟨C, hC⟩ : ∃ C, lastC T k = C := ⟨_, rfl⟩
      have hCl : C.length = m := by rw [← hC, lastC_len, HN.out]; exact hm
      have HC := Lib.hid hC
      have HCl := Lib.hid hCl
      have hm30 : m ≤ 30 := by omega
      have hkm : k + m = N := by have := HKN.out; omega
      have HKM := Lib.hid hkm
      have T0 := Lib.hid (show Kp [(V4.heap.size, .cells #[.slice ya yn yc, .slice za zn zc, .string (bs S)] 25 (0, 0)), (V3.heap.size, .cells #[.int .i64 fo, .bool fd, .string fa] 28 (0, 0)), (V2.heap.size, .cells #[.string a, .int .i64 b, .string c, .int .i64 o, .int .i64 e1, .int .i64 e2, .int .i64 e3, .int .i64 e4, .int .i64 e5, .int .i64 p1, .int .i64 p2, .int .i64 p3, .int .i64 p4, .int .i64 p5] 50 (0, 0)), (V.heap.size, .cells #[.slice ta M tc, .slice (some ⟨g, 0, none⟩) N rc, .string (bs S)] 25 (0, 0)), (W.heap.size, .cells #[.int .u8 n0, .int .u8 n1, .int .u8 o0, .int .u8 o1, .int .u8 k0, .int .u8 k1, .int .u8 d0, .int .u8 d1, .int .u8 s0, .int .u8 s1, .bool q, .int .i32 fi, .slice ga gn gc, .slice ka kn kc] 41 (0, 0))] (chR (.slice none 0 0) (.slice none 0 0) (C.take 0) ++ (tabR (.slice ya yn yc) (.slice za zn zc) Y ++ (tabR (.slice ta M tc) (.slice (some ⟨g, 0, none⟩) N rc) T ++ []))) W _ from ((K5.out.fresh 28 3).fresh 2 1))
      clear hm hC hCl hkm x0 x1 x2 z0 d1' hk1 hk2 hI ht2
      go_loopw [17, 18, 20, 89] (fun v17 v18 _ v89 wr => ∃ i : Nat, i ≤ m ∧ v89 = .int .i64 i ∧ Kp [(V4.heap.size, .cells #[.slice ya yn yc, .slice za zn zc, .string (bs S)] 25 (0, 0)), (V3.heap.size, .cells #[.int .i64 fo, .bool fd, .string fa] 28 (0, 0)), (V2.heap.size, .cells #[.string a, .int .i64 b, .string c, .int .i64 o, .int .i64 e1, .int .i64 e2, .int .i64 e3, .int .i64 e4, .int .i64 e5, .int .i64 p1, .int .i64 p2, .int .i64 p3, .int .i64 p4, .int .i64 p5] 50 (0, 0)), (V.heap.size, .cells #[.slice ta M tc, .slice (some ⟨g, 0, none⟩) N rc, .string (bs S)] 25 (0, 0)), (W.heap.size, .cells #[.int .u8 n0, .int .u8 n1, .int .u8 o0, .int .u8 o1, .int .u8 k0, .int .u8 k1, .int .u8 d0, .int .u8 d1, .int .u8 s0, .int .u8 s1, .bool q, .int .i32 fi, .slice ga gn gc, .slice ka kn kc] 41 (0, 0))] (chR v17 v18 (C.take i) ++ (tabR (.slice ya yn yc) (.slice za zn zc) Y ++ (tabR (.slice ta M tc) (.slice (some ⟨g, 0, none⟩) N rc) T ++ []))) W wr) (fun _ _ _ v89 _ => m - (intOf v89).toNat)
      case atStart => exact ⟨0, by omega, rfl, T0.out⟩
      case round =>
        obtain ⟨i, hi', rfl, hK⟩ := hrel
        by_cases hlt : i < m
        · obtain ⟨a9, kk, ⟨lo, ld, la⟩, hc, hy⟩ := HMid.out (k + i) (by have := HKM.out; omega)
          have hCi : C[i]? = some (a9, ⟨lo, ld, la⟩) := by rw [← HC.out]; exact lastC_at hc hy
          have hnext : C.take (i + 1) = C.take i ++ [(a9, ⟨lo, ld, la⟩)] := by rw [List.take_add_one, hCi]; rfl
          obtain ⟨ci, hci⟩ : ∃ c, C.take i = c := ⟨_, rfl⟩
          rw [hci] at hnext hK
          have hcl : ci.length ≤ 30 := by rw [← hci, List.length_take]; omega
          have HX := Lib.hid hnext
          have HKp := Lib.hid (show Kp _ (⟨u17, 2, 1, ci.length, ci.map (fun x => Value.int .i64 x.1)⟩ :: ⟨u18, 28, 3, ci.length, (ci.map Prod.snd).flatMap Lc.cells⟩ :: _) W wr from hK)
          have KT := Lib.hid (HKp.out.alloc (.cells #[.int .i64 a9, .int .i64 kk] 59))
          have hkM : kk < M := by have := (List.getElem?_eq_some_iff.1 hy).1; rw [HM.out] at this; exact this
          obtain ⟨g', rfl, -, -, -, hg'⟩ := own_some (HKp.out.row 5 rfl) (Nat.lt_of_lt_of_eq (show 0 < M by omega) HM.out.symm)
          obtain ⟨d0', d1'⟩ := tr_cell (HKp.out.row 4 rfl) hc
          rw [Nat.add_mul] at d0' d1'
          obtain ⟨e0', e1', e2'⟩ := lc_cell (HKp.out.row 5 rfl) hy
          dsimp only at d0' d1' e0' e1' e2'
          obtain ⟨⟨x0, x1, x2⟩, _, _, _⟩ := row3 (HKp.out.at 3 rfl)
          have z0 := HKp.out.lt 3 rfl
          have hlt' : (i : Int) < (m : Int) := by omega
          have hkM' : (kk : Int) < (M : Int) := by omega
          have HY := Lib.hid hy
          clear hc hy hCi hnext hci hK T0
          go_upto_region 19 with fail
          go_region_law (first
            | (refine step_append_kp (by rfl) (.tmp 93) (.tmp 96) 42 (by rfl) (KT.out.allocAt (wr.heap.size + 1) (by simp) _).drew j0 (.int .i64 0) 8 Tryz.underlying42 hj hy0 hy1 hy2 (by rfl) (by decide) (by rfl) 0 _ _ _ (by rfl) 1 1 (by rfl) (by rfl) (by simp [Value.oneCell']) (by omega) (by omega) (by omega) ?_; intro gq capq w1 hk; have KA := Lib.hid hk; obtain ⟨m0, m1⟩ := row2 (hk.at 1 rfl); have q0 := hk.lt 1 rfl; obtain ⟨⟨x0, x1, x2⟩, _, _, _⟩ := row3 (hk.at 5 rfl); have q1 := hk.lt 5 rfl; obtain ⟨e0', e1', e2'⟩ := lc_cell (hk.row 5 rfl) HY.out; dsimp only at e0' e1' e2'; have q2 := ((hk.row 5 rfl).lt g' rfl).2; clear hk)
            | (refine step_append_kp (by rfl) (.tmp 93) (.tmp 96) 42 (by rfl) ((KT.out.allocAt (wr.heap.size + 1) (by simp) _).allocAt (wr.heap.size + 1 + 1) (by simp) _).drew j0 (.int .i64 0) 8 Tryz.underlying42 hj hy0 hy1 hy2 (by rfl) (by decide) (by rfl) 0 _ _ _ (by rfl) 1 1 (by rfl) (by rfl) (by simp [Value.oneCell']) (by omega) (by omega) (by omega) ?_; intro gq capq w1 hk; have KA := Lib.hid hk; obtain ⟨m0, m1⟩ := row2 (hk.at 2 rfl); have q0 := hk.lt 2 rfl; obtain ⟨⟨x0, x1, x2⟩, _, _, _⟩ := row3 (hk.at 6 rfl); have q1 := hk.lt 6 rfl; obtain ⟨e0', e1', e2'⟩ := lc_cell (hk.row 5 rfl) HY.out; dsimp only at e0' e1' e2'; have q2 := ((hk.row 5 rfl).lt g' rfl).2; clear hk)
            | (refine step_append_kp (by rfl) (.tmp 93) (.tmp 96) 42 (by rfl) ((KT.out.allocAt (wr.heap.size + 1) (by simp) _).allocAt (wr.heap.size + 1 + 1) (by simp) _).drew j0 (.int .i64 0) 8 Tryz.underlying42 hj hy0 hy1 hy2 (by rfl) (by decide) (by rfl) 1 _ _ _ (by rfl) 1 1 (by rfl) (by rfl) (by simp [Value.oneCell']) (by omega) (by omega) (by omega) ?_; intro gq capq w1 hk; have KA := Lib.hid hk; obtain ⟨m0, m1⟩ := row2 (hk.at 2 rfl); have q0 := hk.lt 2 rfl; obtain ⟨⟨x0, x1, x2⟩, _, _, _⟩ := row3 (hk.at 6 rfl); have q1 := hk.lt 6 rfl; obtain ⟨e0', e1', e2'⟩ := lc_cell (hk.row 5 rfl) HY.out; dsimp only at e0' e1' e2'; have q2 := ((hk.row 5 rfl).lt g' rfl).2; clear hk)
            | (refine step_append_kp (by rfl) (.tmp 93) (.tmp 96) 42 (by rfl) KB.out.swap j0 (.int .i64 0) 8 Tryz.underlying42 hj hy0 hy1 hy2 (by rfl) (by decide) (by rfl) 0 _ _ _ (by rfl) 1 1 (by rfl) (by rfl) (by simp [Value.oneCell']) (by omega) (by omega) (by omega) ?_; intro gq capq w1 hk; have KA := Lib.hid hk; obtain ⟨m0, m1⟩ := row2 (hk.at 2 rfl); have q0 := hk.lt 2 rfl; obtain ⟨⟨x0, x1, x2⟩, _, _, _⟩ := row3 (hk.at 6 rfl); have q1 := hk.lt 6 rfl; obtain ⟨e0', e1', e2'⟩ := lc_cell (hk.row 5 rfl) HY.out; dsimp only at e0' e1' e2'; have q2 := ((hk.row 5 rfl).lt g' rfl).2; clear hk)
            | (refine step_append_kp (by rfl) (.tmp 93) (.tmp 96) 42 (by rfl) KB.out.swap j0 (.int .i64 0) 8 Tryz.underlying42 hj hy0 hy1 hy2 (by rfl) (by decide) (by rfl) 1 _ _ _ (by rfl) 1 1 (by rfl) (by rfl) (by simp [Value.oneCell']) (by omega) (by omega) (by omega) ?_; intro gq capq w1 hk; have KA := Lib.hid hk; obtain ⟨m0, m1⟩ := row2 (hk.at 2 rfl); have q0 := hk.lt 2 rfl; obtain ⟨⟨x0, x1, x2⟩, _, _, _⟩ := row3 (hk.at 6 rfl); have q1 := hk.lt 6 rfl; obtain ⟨e0', e1', e2'⟩ := lc_cell (hk.row 5 rfl) HY.out; dsimp only at e0' e1' e2'; have q2 := ((hk.row 5 rfl).lt g' rfl).2; clear hk)
            | (refine step_append_kp (by rfl) (.tmp 93) (.tmp 96) 42 (by rfl) (KB.out.swap.alloc _) j0 (.int .i64 0) 8 Tryz.underlying42 hj hy0 hy1 hy2 (by rfl) (by decide) (by rfl) 0 _ _ _ (by rfl) 1 1 (by rfl) (by rfl) (by simp [Value.oneCell']) (by omega) (by omega) (by omega) ?_; intro gq capq w1 hk; have KA := Lib.hid hk; obtain ⟨m0, m1⟩ := row2 (hk.at 2 rfl); have q0 := hk.lt 2 rfl; obtain ⟨⟨x0, x1, x2⟩, _, _, _⟩ := row3 (hk.at 6 rfl); have q1 := hk.lt 6 rfl; obtain ⟨e0', e1', e2'⟩ := lc_cell (hk.row 5 rfl) HY.out; dsimp only at e0' e1' e2'; have q2 := ((hk.row 5 rfl).lt g' rfl).2; clear hk)
            | (refine step_append_kp (by rfl) (.tmp 98) (.tmp 105) 22 (by rfl) (KT.out.allocAt (wr.heap.size + 1) (by simp) _).drew.swap i0 (.agg #[.int .i64 0, .bool false, .string ⟨#[]⟩]) 32 Tryz.underlying22 hi hz0 hz1 hz2 (by rfl) (by decide) (by rfl) 0 _ _ _ (by rfl) 1 1 (by rfl) (by rfl) (by simp [Value.oneCell']) (by omega) (by omega) (by omega) ?_; intro gp capp w1 hk; have KB := Lib.hid hk; obtain ⟨m0, m1⟩ := row2 (hk.at 1 rfl); have q0 := hk.lt 1 rfl; obtain ⟨⟨x0, x1, x2⟩, _, _, _⟩ := row3 (hk.at 5 rfl); have q1 := hk.lt 5 rfl; obtain ⟨e0', e1', e2'⟩ := lc_cell (hk.row 5 rfl) HY.out; dsimp only at e0' e1' e2'; have q2 := ((hk.row 5 rfl).lt g' rfl).2; clear hk)
            | (refine step_append_kp (by rfl) (.tmp 98) (.tmp 105) 22 (by rfl) ((KT.out.allocAt (wr.heap.size + 1) (by simp) _).allocAt (wr.heap.size + 1 + 1) (by simp) _).drew.swap i0 (.agg #[.int .i64 0, .bool false, .string ⟨#[]⟩]) 32 Tryz.underlying22 hi hz0 hz1 hz2 (by rfl) (by decide) (by rfl) 0 _ _ _ (by rfl) 1 1 (by rfl) (by rfl) (by simp [Value.oneCell']) (by omega) (by omega) (by omega) ?_; intro gp capp w1 hk; have KB := Lib.hid hk; obtain ⟨m0, m1⟩ := row2 (hk.at 2 rfl); have q0 := hk.lt 2 rfl; obtain ⟨⟨x0, x1, x2⟩, _, _, _⟩ := row3 (hk.at 6 rfl); have q1 := hk.lt 6 rfl; obtain ⟨e0', e1', e2'⟩ := lc_cell (hk.row 5 rfl) HY.out; dsimp only at e0' e1' e2'; have q2 := ((hk.row 5 rfl).lt g' rfl).2; clear hk)
            | (refine step_append_kp (by rfl) (.tmp 98) (.tmp 105) 22 (by rfl) ((KT.out.allocAt (wr.heap.size + 1) (by simp) _).allocAt (wr.heap.size + 1 + 1) (by simp) _).drew.swap i0 (.agg #[.int .i64 0, .bool false, .string ⟨#[]⟩]) 32 Tryz.underlying22 hi hz0 hz1 hz2 (by rfl) (by decide) (by rfl) 1 _ _ _ (by rfl) 1 1 (by rfl) (by rfl) (by simp [Value.oneCell']) (by omega) (by omega) (by omega) ?_; intro gp capp w1 hk; have KB := Lib.hid hk; obtain ⟨m0, m1⟩ := row2 (hk.at 2 rfl); have q0 := hk.lt 2 rfl; obtain ⟨⟨x0, x1, x2⟩, _, _, _⟩ := row3 (hk.at 6 rfl); have q1 := hk.lt 6 rfl; obtain ⟨e0', e1', e2'⟩ := lc_cell (hk.row 5 rfl) HY.out; dsimp only at e0' e1' e2'; have q2 := ((hk.row 5 rfl).lt g' rfl).2; clear hk)
            | (refine step_append_kp (by rfl) (.tmp 98) (.tmp 105) 22 (by rfl) KA.out.swap i0 (.agg #[.int .i64 0, .bool false, .string ⟨#[]⟩]) 32 Tryz.underlying22 hi hz0 hz1 hz2 (by rfl) (by decide) (by rfl) 0 _ _ _ (by rfl) 1 1 (by rfl) (by rfl) (by simp [Value.oneCell']) (by omega) (by omega) (by omega) ?_; intro gp capp w1 hk; have KB := Lib.hid hk; obtain ⟨m0, m1⟩ := row2 (hk.at 2 rfl); have q0 := hk.lt 2 rfl; obtain ⟨⟨x0, x1, x2⟩, _, _, _⟩ := row3 (hk.at 6 rfl); have q1 := hk.lt 6 rfl; obtain ⟨e0', e1', e2'⟩ := lc_cell (hk.row 5 rfl) HY.out; dsimp only at e0' e1' e2'; have q2 := ((hk.row 5 rfl).lt g' rfl).2; clear hk)
            | (refine step_append_kp (by rfl) (.tmp 98) (.tmp 105) 22 (by rfl) KA.out.swap i0 (.agg #[.int .i64 0, .bool false, .string ⟨#[]⟩]) 32 Tryz.underlying22 hi hz0 hz1 hz2 (by rfl) (by decide) (by rfl) 1 _ _ _ (by rfl) 1 1 (by rfl) (by rfl) (by simp [Value.oneCell']) (by omega) (by omega) (by omega) ?_; intro gp capp w1 hk; have KB := Lib.hid hk; obtain ⟨m0, m1⟩ := row2 (hk.at 2 rfl); have q0 := hk.lt 2 rfl; obtain ⟨⟨x0, x1, x2⟩, _, _, _⟩ := row3 (hk.at 6 rfl); have q1 := hk.lt 6 rfl; obtain ⟨e0', e1', e2'⟩ := lc_cell (hk.row 5 rfl) HY.out; dsimp only at e0' e1' e2'; have q2 := ((hk.row 5 rfl).lt g' rfl).2; clear hk)
            | (refine step_append_kp (by rfl) (.tmp 98) (.tmp 105) 22 (by rfl) (KA.out.swap.alloc _) i0 (.agg #[.int .i64 0, .bool false, .string ⟨#[]⟩]) 32 Tryz.underlying22 hi hz0 hz1 hz2 (by rfl) (by decide) (by rfl) 0 _ _ _ (by rfl) 1 1 (by rfl) (by rfl) (by simp [Value.oneCell']) (by omega) (by omega) (by omega) ?_; intro gp capp w1 hk; have KB := Lib.hid hk; obtain ⟨m0, m1⟩ := row2 (hk.at 2 rfl); have q0 := hk.lt 2 rfl; obtain ⟨⟨x0, x1, x2⟩, _, _, _⟩ := row3 (hk.at 6 rfl); have q1 := hk.lt 6 rfl; obtain ⟨e0', e1', e2'⟩ := lc_cell (hk.row 5 rfl) HY.out; dsimp only at e0' e1' e2'; have q2 := ((hk.row 5 rfl).lt g' rfl).2; clear hk))
          all_goals
            go_wp2_with fail
            go_roundw
            case rel =>
              refine ⟨i + 1, by omega, by go_num, ?_⟩
              rw [HX.out, chR_snoc]
              first
                | exact KB.out.drop.drop.drop.swap
                | exact KA.out.drop.drop.drop
            case measure => simp [intOf]; omega
        · obtain rfl : i = m := by omega
          rw [List.take_of_length_le (by rw [HCl.out]; omega)] at hK
          obtain ⟨a17, c17, rfl⟩ : ∃ a c, u17 = .slice a C.length c := own_slice (hK.row 0 rfl)
          obtain ⟨a18, c18, rfl⟩ : ∃ a c, u18 = .slice a C.length c := own_slice (hK.row 1 rfl)
          have KL := Lib.hid hK
          clear hK T0
          obtain ⟨q1, q2, q3⟩ := chR_at (KL.out.less (List.sublist_append_left _ _))
          obtain ⟨f1, f2⟩ := HFit.out HF.out k
          rw [HC.out] at f1 f2
          have CO2 := of_any zzzL (C.map Prod.fst) (C.map Prod.snd) _ _ S wr q1 q2 q3 zzz_fit f1 f2 (HE.out.keep KL.out.below) (by rw [List.length_map, HCl.out]; omega)
          have hz1 := HZ.out.1
          rw [HC.out] at hz1
          rw [hz1] at CO2
          dsimp only at CO2
          rw [HZ.out.2.1, show zzzL.val = .agg #[.int .i64 0, .bool false, .string ⟨#[90, 90, 90]⟩] from rfl] at CO2
          have CO3 := Lib.hid CO2
          have hZl := HZ.out.2.2.1
          have CZ := fun tv rv w h hE => look_any Z tv rv (bs S) t2 w h hE (by omega)
          rw [HZ.out.2.2.2 t2 (by rw [HLast.out]; exact g0) g2] at CZ
          have C1 := CL.out t2
          rw [HLk.out] at C1
          have ho := HA1.out t2 g1 g2
          obtain ⟨⟨⟨mo, md, ma⟩, e8⟩, hA⟩ : ∃ A, atL ⟨a, b, c, o, ⟨e1, e2, e3, e4, e5⟩, ⟨p1, p2, p3, p4, p5⟩⟩ t2 = A := ⟨_, rfl⟩
          rw [hA] at ho C1 CZ
          unfold Lc.val at C1 CZ
          dsimp only at ho C1 CZ
          subst ho
          have CL1 := Lib.hid C1
          have CZ1 := Lib.hid CZ
          have HTZ : Hid (∀ {L : List (Nat × Obj)} {R : List Rw} {tv rv : Value} {X : World}, TabFit Z → Kp L (tabR tv rv Z ++ R) W X → TabV X tv rv (bs S) Z) := Lib.hid (by
            intro hf h
            rw [← HZ.out.2.1]
            exact h.tab hf)
          obtain ⟨⟨x0, x1, x2⟩, _, _, _⟩ := row3 (KL.out.at 3 rfl)
          have z0 := KL.out.lt 3 rfl
          clear q1 q2 q3 f1 f2 CO2 hz1 CZ C1 hA
          go_wp2_with fail
          refine CO3.out.mono ?_
          rintro _ V5 ⟨tv2, rv2, rfl, hk, hf2⟩
          have hk1 := KL.out.adopt hk
          obtain ⟨sa, sc, rfl⟩ : ∃ a c, tv2 = .slice a Z.types.length c := own_slice (hk1.row 1 rfl)
          obtain ⟨sb, sd, rfl⟩ : ∃ a c, rv2 = .slice a Z.trans.length c := own_slice (hk1.row 0 rfl)
          have KM := Lib.hid (hk1.alloc (.cells #[.slice sa Z.types.length sc, .slice sb Z.trans.length sd, .string (bs S)] 25))
          have HF2 := Lib.hid hf2
          clear hk hk1 hf2 x0 x1 x2 z0
          go_wp2_with fail
          refine (CZ1.out _ _ _ (HTZ.out HF2.out KM.out) (HE.out.keep KM.out.below)).mono ?_
          rintro _ V6 ⟨rfl, hb⟩
          have KN := Lib.hid (KM.out.keep hb)
          have KO := Lib.hid (KN.out.alloc (.cells #[.int .i64 mo, .bool md, .string ma] 28))
          clear hb
          obtain ⟨⟨x0, x1, x2⟩, _, _, _⟩ := row3 (KN.out.at 4 rfl)
          have z0 := KN.out.lt 4 rfl
          go_wp2_with fail
          refine (CL1.out _ _ _ (HTV.out (KO.out.less (List.Sublist.trans (List.Sublist.trans (List.sublist_append_right _ _) (List.sublist_append_right _ _)) (List.sublist_append_right _ _)))) (HE.out.keep KO.out.below)).mono ?_
          rintro _ V7 ⟨rfl, hb⟩
          have KP := Lib.hid (KO.out.keep hb)
          have KQ := Lib.hid (KP.out.alloc (.cells #[.int .i64 mo, .bool md, .string ma] 28))
          clear hb x0 x1 x2 z0
          obtain ⟨⟨x0, x1, x2⟩, _, _, _⟩ := row3 (KP.out.at 0 rfl)
          have z0 := KP.out.lt 0 rfl
          go_wp2_with fail
          go_meet
          exact ⟨t2, rfl, g1, g2, HLk.out, (KQ.out.drop.drop.drop).less (List.Sublist.trans (List.sublist_append_right _ _) (List.sublist_append_right _ _))⟩
  case rest =>
    obtain ⟨t2, rfl, u0, u1, hl, hk⟩ := hcut
    have KX := Lib.hid hk
    clear hk K0 K1 K2 K3 K4 K5 K6 x0 x1 x2 z0
    have ho := HA1.out t2 u0 u1
    have hn := HNo.out t2 u0 u1
    have C1 := CL.out t2
    have C2 := CY.out t2
    rw [hl] at C1
    rw [hn] at C2
    obtain ⟨⟨⟨lo, ld, la⟩, e9⟩, hA⟩ : ∃ A, atL ⟨a, b, c, o, ⟨e1, e2, e3, e4, e5⟩, ⟨p1, p2, p3, p4, p5⟩⟩ t2 = A := ⟨_, rfl⟩
    rw [hA] at ho C1 C2
    unfold Lc.val at C1 C2
    dsimp only at ho C1 C2
    subst ho
    have CL1 := Lib.hid C1
    have CY1 := Lib.hid C2
    clear hl hn hA C1 C2
    obtain ⟨⟨x0, x1, x2⟩, _, _, _⟩ := row3 (KX.out.at 3 rfl)
    have z0 := KX.out.lt 3 rfl
    go_wp2_with fail
    refine (CL1.out _ _ _ (HTV.out (KX.out.less (List.sublist_append_right _ _))) (HE.out.keep KX.out.below)).mono ?_
    rintro _ V5 ⟨rfl, hb⟩
    have KA := Lib.hid (KX.out.keep hb)
    have KB := Lib.hid (KA.out.alloc (.cells #[.int .i64 lo, .bool ld, .string la] 28))
    clear hb x0 x1 x2 z0
    obtain ⟨⟨x0, x1, x2⟩, _, _, _⟩ := row3 (KA.out.at 0 rfl)
    have z0 := KA.out.lt 0 rfl
    go_wp2_with fail
    refine (CY1.out _ _ _ (HTY.out KB.out) (HE.out.keep KB.out.below)).mono ?_
    rintro _ V6 ⟨rfl, hb⟩
    have KC := Lib.hid (KB.out.keep hb)
    have KD := Lib.hid (KC.out.alloc (.cells #[.int .i64 lo, .bool ld, .string la] 28))
    clear hb x0 x1 x2 z0
    obtain ⟨⟨x0, x1, x2⟩, _, _, _⟩ := row3 (KC.out.at 0 rfl)
    have z0 := KC.out.lt 0 rfl
    go_wp2_with fail
    refine (CW.out _ (HE.out.keep KD.out.below)).mono ?_
    rintro _ V7 ⟨rfl, hb⟩
    have KE := Lib.hid (KD.out.keep hb)
    clear hb
    go_wp2_with fail
    go_ret
    exact ⟨rfl, KE.out.below⟩
end Go.Proofs.YtlaplgaccjmbhaaGreatDoor.Px

