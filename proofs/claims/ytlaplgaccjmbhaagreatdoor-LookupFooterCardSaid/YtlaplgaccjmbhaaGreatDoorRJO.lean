/- Local times by tables: lookup.At and analemmaref45.At. -/
import Derived.Test.YtlaplgaccjmbhaaGreatDoorRG19
namespace Go.Proofs.YtlaplgaccjmbhaaGreatDoor.Px
open Go.RowKit
open Tb
theorem look_err {x : Tab} {t : Int} (h : (idxE x t).2 ≠ 0) : lookL x t = (⟨0, false, ⟨#[]⟩⟩, (idxE x t).2) := by unfold lookL; rw [if_pos h]
theorem look_last {x : Tab} {t : Int} (h : (idxE x t).2 = 0) (h2 : (idxE x t).1 = x.trans.length) : lookL x t = atL (finG rfF x.foot).1 t := by unfold lookL; rw [if_neg (fun q => q h), if_pos h2]
theorem look_first {x : Tab} {t : Int} (h : (idxE x t).2 = 0) (h2 : ¬ (idxE x t).1 = x.trans.length) (h3 : (idxE x t).1 = 0) : lookL x t = (x.types.getD 0 Lc.zero, 0) := by unfold lookL; rw [if_neg (fun q => q h), if_neg h2, if_pos h3]
theorem look_mid {x : Tab} {t : Int} {m k : Nat} {y : Lc} {a : Int} (h : (idxE x t).2 = 0) (h2 : ¬ (idxE x t).1 = x.trans.length) (h3 : (idxE x t).1 = m + 1) (hm : x.trans[m]? = some ⟨a, (k : Int)⟩) (hy : x.types[k]? = some y) : lookL x t = (y, 0) := by
  unfold lookL
  rw [if_neg (fun q => q h), if_neg h2, h3, if_neg (by omega), Nat.add_sub_cancel]
  rw [show x.trans.getD m ⟨0, 0⟩ = ⟨a, (k : Int)⟩ by simp [List.getD, hm]]
  rw [show x.types.getD (k : Int).toNat Lc.zero = y by rw [Int.toNat_natCast]; simp [List.getD, hy]]
theorem idxE_zero {x : Tab} {t : Int} (h : (idxE x t).2 = 0) : checkE x = 0 ∧ (idxE x t).1 = idxT x.trans t := by
  unfold idxE at h ⊢
  by_cases h1 : checkE x ≠ 0
  · rw [if_pos h1] at h; cases h
  rw [if_neg h1] at h ⊢
  by_cases h2 : t < -36028797018963968 ∨ 36028797018963968 < t
  · rw [if_pos h2] at h; cases h
  rw [if_neg h2]
  exact ⟨Decidable.of_not_not h1, rfl⟩
/-- which transitions and types a right table has -/
theorem right_mid {x : Tab} (h : checkE x = 0) {m : Nat} (hm : m < x.trans.length) : ∃ (a : Int) (k : Nat) (y : Lc), x.trans[m]? = some ⟨a, (k : Int)⟩ ∧ x.types[k]? = some y := by
  have ht := (transGo_ok _ _ _ _ (check_zero h).2.1).ty x.trans[m] (List.getElem_mem hm)
  obtain ⟨k, hk⟩ : ∃ k : Nat, x.trans[m].ty = (k : Int) := ⟨x.trans[m].ty.toNat, by omega⟩
  have hlt : k < x.types.length := by omega
  exact ⟨x.trans[m].at', k, x.types[k], by rw [List.getElem?_eq_getElem hm, ← hk], List.getElem?_eq_getElem hlt⟩
set_option maxHeartbeats 4000000 in
set_option maxRecDepth 100000 in
theorem look_any (x : Tab) (tv rv : Value) (f : ByteArray) (t : Int) (W : World) (h : TabV W tv rv f x) (hE : EnvAt W) (hmax : x.trans.length ≤ 1000000000000) :
    Calls Tryz.prog 16 #[.agg #[tv, rv, .string f], .int .i64 t] W fun e w' => e = .returned (.tuple #[(lookL x t).1.val, .int .i64 (lookL x t).2]) ∧ Below W.heap.size W w' := by
  obtain ⟨ta, tc, htv, t1, t2⟩ := h.types.slice
  obtain ⟨ra, rc, hrv, r1, r2⟩ := h.trans.slice
  have hL1 := fun h0 => h.types.all h0
  have hR1 := fun h0 => h.trans.all h0
  obtain ⟨n, hn⟩ : ∃ n, x.types.length = n := ⟨_, rfl⟩
  obtain ⟨N, hN⟩ : ∃ n, x.trans.length = n := ⟨_, rfl⟩
  rw [hn] at htv t1 hL1
  rw [hN] at hrv r1 hR1 hmax
  subst htv hrv
  unfold maxLen at t2 r2
  have hf := h.foot
  have HL1 := Lib.hid hL1
  have HR1 := Lib.hid hR1
  have HT := Lib.hid h
  have HE := Lib.hid hE
  have CI := Lib.hid (fun w h hE => index_any' x (.slice ta n tc) (.slice ra N rc) f t w h hE (by rw [hN]; exact hmax))
  have K0 := Lib.hid (((Kp.start W).alloc (.cells #[.slice ta n tc, .slice ra N rc, .string f] 25)).allocAt (W.heap.size + 1) (by simp) (.cells #[.int .i64 0, .bool false, .string ⟨#[]⟩] 28))
  have hle := idx_le x.trans t
  rw [hN] at hle
  clear h hL1 hR1 hE
  by_cases h1 : (idxE x t).2 = 0
  case neg =>
    rw [look_err h1]
    obtain ⟨E, hE2⟩ : ∃ E, (idxE x t).2 = E := ⟨_, rfl⟩
    obtain ⟨I, hI⟩ : ∃ I, (idxE x t).1 = I := ⟨_, rfl⟩
    rw [hE2, hI] at CI
    rw [hE2] at h1 ⊢
    unfold Lc.val
    dsimp only
    clear hE2 hI hN hn hf hmax
    go_enter Tryz.func16, Tryz.ntmps16
    go_wp2_with fail
    refine (CI.out _ (HT.out.keep K0.out.below) (HE.out.keep K0.out.below)).mono ?_
    rintro _ V ⟨rfl, hb⟩
    have K1 := Lib.hid (K0.out.keep hb)
    obtain ⟨⟨r0, r1, r2⟩, s0, s1, s2⟩ := row3 (K1.out.at 0 rfl)
    obtain ⟨⟨m0, m1, m2⟩, _, _, _⟩ := row3 (K1.out.at 1 rfl)
    have z0 := K1.out.lt 0 rfl
    have z1 := K1.out.lt 1 rfl
    clear hb
    go_wp2_with fail
    refine bodyPost_ret (v := .tuple #[.agg #[.int .i64 0, .bool false, .string ⟨#[]⟩], .int .i64 E]) (by simp [results, Tryz.results16, go_sem, r0, r1, r2]) rfl ⟨rfl, ?_⟩
    exact (((K1.out.set 0 rfl 0 _ rfl).set 0 rfl 1 _ rfl).set 0 rfl 2 _ rfl).below
  obtain ⟨hck, hI0⟩ := idxE_zero h1
  obtain ⟨hty, htr, hft⟩ := check_zero hck
  rw [← hI0] at hle
  rw [h1] at CI
  by_cases h2 : (idxE x t).1 = N
  · rw [look_last h1 (by rw [hN]; exact h2)]
    rw [h2] at CI
    have CP := Lib.hid (fun w hE => parse_any x.foot w hE)
    rw [← hf, fin_two, foot_zero hft] at CP
    have hsz := fin_size rfF x.foot
    obtain ⟨P, hP⟩ : ∃ P, (finG rfF x.foot).1 = P := ⟨_, rfl⟩
    rw [hP] at CP hsz
    rw [hP]
    have CA := Lib.hid (fun w hE => atL_any P t hsz.1 hsz.2 w hE)
    obtain ⟨A, hA⟩ : ∃ A, atL P t = A := ⟨_, rfl⟩
    rw [hA] at CA
    rw [hA]
    obtain ⟨a, q, d, g, ⟨e1, e2, e3, e4, e5⟩, ⟨g1, g2, g3, g4, g5⟩⟩ := P
    unfold Pos.val at CP CA
    obtain ⟨⟨lo, ld, la⟩, ee⟩ := A
    unfold Lc.val at CA
    unfold Lc.val
    dsimp only at CP CA ⊢
    clear h1 h2 hI0 hle hck hty htr hft hP hA hsz hN hn hf hmax
    go_enter Tryz.func16, Tryz.ntmps16
    go_wp2_with fail
    refine (CI.out _ (HT.out.keep K0.out.below) (HE.out.keep K0.out.below)).mono ?_
    rintro _ V ⟨rfl, hb⟩
    have K1 := Lib.hid (K0.out.keep hb)
    obtain ⟨⟨r0, r1, r2⟩, s0, s1, s2⟩ := row3 (K1.out.at 0 rfl)
    obtain ⟨⟨m0, m1, m2⟩, _, _, _⟩ := row3 (K1.out.at 1 rfl)
    have z0 := K1.out.lt 0 rfl
    have z1 := K1.out.lt 1 rfl
    clear hb
    go_wp2_with fail
    refine (CP.out _ (HE.out.keep K1.out.below)).mono ?_
    rintro _ V2 ⟨rfl, hb⟩
    have K2 := Lib.hid (K1.out.keep hb)
    have K3 := Lib.hid (K2.out.alloc (.cells #[.string a, .int .i64 q, .string d, .int .i64 g, .int .i64 e1, .int .i64 e2, .int .i64 e3, .int .i64 e4, .int .i64 e5, .int .i64 g1, .int .i64 g2, .int .i64 g3, .int .i64 g4, .int .i64 g5] 50))
    clear hb r0 r1 r2 s0 s1 s2 m0 m1 m2 z0 z1
    go_wp2_with fail
    refine (CA.out _ (HE.out.keep K3.out.below)).mono ?_
    rintro _ V3 ⟨rfl, hb⟩
    have K4 := Lib.hid (K3.out.keep hb)
    obtain ⟨⟨r0, r1, r2⟩, s0, s1, s2⟩ := row3 (K4.out.at 1 rfl)
    have z0 := K4.out.lt 1 rfl
    clear hb
    go_wp2_with fail
    refine bodyPost_ret (v := .tuple #[.agg #[.int .i64 lo, .bool ld, .string la], .int .i64 ee]) (by simp [results, Tryz.results16, go_sem, r0, r1, r2]) rfl ⟨rfl, ?_⟩
    exact (((K4.out.set 1 rfl 0 _ rfl).set 1 rfl 1 _ rfl).set 1 rfl 2 _ rfl).below
  by_cases h3 : (idxE x t).1 = 0
  · obtain ⟨b, o, c, e1, _, _, hb, hcell⟩ := HL1.out (by have := List.length_pos_iff.2 (typesE_zero hty).1; omega)
    simp only [Value.slice.injEq] at e1
    obtain ⟨rfl, _, rfl⟩ := e1
    have hn0 : 0 < n := by have := List.length_pos_iff.2 (typesE_zero hty).1; omega
    have hn1 : (0 : Int) < (n : Int) := by omega
    obtain ⟨y, hy⟩ : ∃ y, x.types[0]? = some y := ⟨_, List.getElem?_eq_getElem (by omega)⟩
    rw [look_first h1 (by rw [hN]; exact h2) h3, show x.types.getD 0 Lc.zero = y by simp [List.getD, hy]]
    rw [h3] at CI
    have hz : ¬ (0 : Int) = (N : Int) := by omega
    obtain ⟨c0, c1, c2⟩ := hcell 0 y hy
    simp only [Nat.zero_mul, Nat.add_zero] at c0 c1 c2
    obtain ⟨lo, ld, la⟩ := y
    unfold Lc.val
    dsimp only at c0 c1 c2 ⊢
    have C0 := Lib.hid c0
    have C1 := Lib.hid c1
    have C2 := Lib.hid c2
    clear h1 h2 h3 hI0 hle hck hty htr hft hN hn hcell hy c0 c1 c2 hf hmax
    go_enter Tryz.func16, Tryz.ntmps16
    go_wp2_with fail
    refine (CI.out _ (HT.out.keep K0.out.below) (HE.out.keep K0.out.below)).mono ?_
    rintro _ V ⟨rfl, hb⟩
    have K1 := Lib.hid (K0.out.keep hb)
    obtain ⟨⟨r0, r1, r2⟩, s0, s1, s2⟩ := row3 (K1.out.at 0 rfl)
    obtain ⟨⟨m0, m1, m2⟩, _, _, _⟩ := row3 (K1.out.at 1 rfl)
    have z0 := K1.out.lt 0 rfl
    have z1 := K1.out.lt 1 rfl
    clear hb
    have k0 := (K1.out.below.cell (p := ⟨b, o, none⟩) hb).trans C0.out
    have k1 := (K1.out.below.cell (p := ⟨b, o + 1, none⟩) hb).trans C1.out
    have k2 := (K1.out.below.cell (p := ⟨b, o + 2, none⟩) hb).trans C2.out
    have hbw : b < V.heap.size := Nat.lt_of_lt_of_le hb K1.out.below.size
    go_wp2_with fail
    refine bodyPost_ret (v := .tuple #[.agg #[.int .i64 lo, .bool ld, .string la], .int .i64 0]) (by simp [results, Tryz.results16, go_sem, r0, r1, r2]) rfl ⟨rfl, ?_⟩
    exact (((K1.out.set 0 rfl 0 _ rfl).set 0 rfl 1 _ rfl).set 0 rfl 2 _ rfl).below
  obtain ⟨m, hm⟩ : ∃ m, (idxE x t).1 = m + 1 := ⟨(idxE x t).1 - 1, by omega⟩
  have hmN : m + 1 < N := by omega
  obtain ⟨ya, k, y, hx, hy⟩ := right_mid hck (m := m) (by omega)
  rw [look_mid h1 (by rw [hN]; exact h2) hm hx hy]
  rw [hm] at CI
  have hkn := (List.getElem?_eq_some_iff.1 hy).1
  rw [hn] at hkn
  have hz : ¬ ((m + 1 : Nat) : Int) = (N : Int) := by omega
  have hz2 : ¬ ((m + 1 : Nat) : Int) = 0 := by omega
  have hkn' : (k : Int) < (n : Int) := by omega
  have hmN' : (m : Int) < (N : Int) := by omega
  obtain ⟨b, o, c, e1, _, _, hb, hcell⟩ := HL1.out (by omega)
  simp only [Value.slice.injEq] at e1
  obtain ⟨rfl, _, rfl⟩ := e1
  obtain ⟨b', o', c', e1, _, _, hb', hcell'⟩ := HR1.out (by omega)
  simp only [Value.slice.injEq] at e1
  obtain ⟨rfl, _, rfl⟩ := e1
  obtain ⟨c0, c1, c2⟩ := hcell k y hy
  obtain ⟨_, d1⟩ := hcell' m _ hx
  obtain ⟨lo, ld, la⟩ := y
  unfold Lc.val
  dsimp only at c0 c1 c2 d1 ⊢
  have C0 := Lib.hid c0
  have C1 := Lib.hid c1
  have C2 := Lib.hid c2
  have D1 := Lib.hid d1
  clear h1 h2 h3 hI0 hle hck hty htr hft hN hn hcell hcell' hx hy c0 c1 c2 d1 hm hf hmax
  go_enter Tryz.func16, Tryz.ntmps16
  go_wp2_with fail
  refine (CI.out _ (HT.out.keep K0.out.below) (HE.out.keep K0.out.below)).mono ?_
  rintro _ V ⟨rfl, hb⟩
  have K1 := Lib.hid (K0.out.keep hb)
  obtain ⟨⟨r0, r1, r2⟩, s0, s1, s2⟩ := row3 (K1.out.at 0 rfl)
  obtain ⟨⟨m0, m1, m2⟩, _, _, _⟩ := row3 (K1.out.at 1 rfl)
  have z0 := K1.out.lt 0 rfl
  have z1 := K1.out.lt 1 rfl
  clear hb
  have k0 := (K1.out.below.cell (p := ⟨b, o + k * 3, none⟩) hb).trans C0.out
  have k1 := (K1.out.below.cell (p := ⟨b, o + k * 3 + 1, none⟩) hb).trans C1.out
  have k2 := (K1.out.below.cell (p := ⟨b, o + k * 3 + 2, none⟩) hb).trans C2.out
  have k3 := (K1.out.below.cell (p := ⟨b', o' + m * 2 + 1, none⟩) hb').trans D1.out
  have hbw : b < V.heap.size := Nat.lt_of_lt_of_le hb K1.out.below.size
  have hbw' : b' < V.heap.size := Nat.lt_of_lt_of_le hb' K1.out.below.size
  go_upto_region 11 with fail
  go_region
  all_goals
    go_wp2_with fail
    first
      | (refine bodyPost_ret (v := .tuple #[.agg #[.int .i64 lo, .bool ld, .string la], .int .i64 0]) (by simp [results, Tryz.results16, go_sem, r0, r1, r2]) rfl ⟨rfl, ?_⟩; exact ((((K1.out.set 0 rfl 0 _ rfl).set 0 rfl 1 _ rfl).set 0 rfl 2 _ rfl).drew).below)
set_option maxHeartbeats 4000000 in
set_option maxRecDepth 100000 in
theorem rlook_any (x : Tab) (tv rv : Value) (f : ByteArray) (t : Int) (W : World) (h : TabV W tv rv f x) :
    Calls Tryz.prog 17 #[.agg #[tv, rv, .string f], .int .i64 t] W fun e w' => e = .returned (.tuple #[(lookL x t).1.val, .int .i64 (lookL x t).2]) ∧ Below W.heap.size W w' := by
  obtain ⟨ta, tc, htv, t1, t2⟩ := h.types.slice
  obtain ⟨ra, rc, hrv, r1, r2⟩ := h.trans.slice
  have hL1 := fun h0 => h.types.all h0
  have hR1 := fun h0 => h.trans.all h0
  obtain ⟨n, hn⟩ : ∃ n, x.types.length = n := ⟨_, rfl⟩
  obtain ⟨N, hN⟩ : ∃ n, x.trans.length = n := ⟨_, rfl⟩
  rw [hn] at htv t1 hL1
  rw [hN] at hrv r1 hR1
  subst htv hrv
  unfold maxLen at t2 r2
  have hf := h.foot
  have HL1 := Lib.hid hL1
  have HR1 := Lib.hid hR1
  have HT := Lib.hid h
  have CI := Lib.hid (fun w h => rindex_any x (.slice ta n tc) (.slice ra N rc) f t w h)
  have K0 := Lib.hid (((Kp.start W).alloc (.cells #[.slice ta n tc, .slice ra N rc, .string f] 25)).allocAt (W.heap.size + 1) (by simp) (.cells #[.int .i64 0, .bool false, .string ⟨#[]⟩] 28))
  have hle := idx_le x.trans t
  rw [hN] at hle
  clear h hL1 hR1
  by_cases h1 : (idxE x t).2 = 0
  case neg =>
    rw [look_err h1]
    obtain ⟨E, hE2⟩ : ∃ E, (idxE x t).2 = E := ⟨_, rfl⟩
    obtain ⟨I, hI⟩ : ∃ I, (idxE x t).1 = I := ⟨_, rfl⟩
    rw [hE2, hI] at CI
    rw [hE2] at h1 ⊢
    unfold Lc.val
    dsimp only
    clear hE2 hI hN hn hf
    go_enter Tryz.func17, Tryz.ntmps17
    go_wp2_with fail
    refine (CI.out _ (HT.out.keep K0.out.below)).mono ?_
    rintro _ V ⟨rfl, hb⟩
    have K1 := Lib.hid (K0.out.keep hb)
    obtain ⟨⟨r0, r1, r2⟩, s0, s1, s2⟩ := row3 (K1.out.at 0 rfl)
    obtain ⟨⟨m0, m1, m2⟩, _, _, _⟩ := row3 (K1.out.at 1 rfl)
    have z0 := K1.out.lt 0 rfl
    have z1 := K1.out.lt 1 rfl
    clear hb
    go_wp2_with fail
    refine bodyPost_ret (v := .tuple #[.agg #[.int .i64 0, .bool false, .string ⟨#[]⟩], .int .i64 E]) (by simp [results, Tryz.results17, go_sem, r0, r1, r2]) rfl ⟨rfl, ?_⟩
    exact (((K1.out.set 0 rfl 0 _ rfl).set 0 rfl 1 _ rfl).set 0 rfl 2 _ rfl).below
  obtain ⟨hck, hI0⟩ := idxE_zero h1
  obtain ⟨hty, htr, hft⟩ := check_zero hck
  rw [← hI0] at hle
  rw [h1] at CI
  by_cases h2 : (idxE x t).1 = N
  · rw [look_last h1 (by rw [hN]; exact h2)]
    rw [h2] at CI
    have CP := Lib.hid (fun w => ref_parse_any x.foot w)
    rw [← hf, foot_zero hft] at CP
    have hsz := fin_size rfF x.foot
    obtain ⟨P, hP⟩ : ∃ P, (finG rfF x.foot).1 = P := ⟨_, rfl⟩
    rw [hP] at CP hsz
    rw [hP]
    have CA := Lib.hid (fun w => ratL_any P t hsz.1 hsz.2 w)
    obtain ⟨A, hA⟩ : ∃ A, atL P t = A := ⟨_, rfl⟩
    rw [hA] at CA
    rw [hA]
    obtain ⟨a, q, d, g, ⟨e1, e2, e3, e4, e5⟩, ⟨g1, g2, g3, g4, g5⟩⟩ := P
    unfold Pos.val at CP CA
    obtain ⟨⟨lo, ld, la⟩, ee⟩ := A
    unfold Lc.val at CA
    unfold Lc.val
    dsimp only at CP CA ⊢
    clear h1 h2 hI0 hle hck hty htr hft hP hA hsz hN hn hf
    go_enter Tryz.func17, Tryz.ntmps17
    go_wp2_with fail
    refine (CI.out _ (HT.out.keep K0.out.below)).mono ?_
    rintro _ V ⟨rfl, hb⟩
    have K1 := Lib.hid (K0.out.keep hb)
    obtain ⟨⟨r0, r1, r2⟩, s0, s1, s2⟩ := row3 (K1.out.at 0 rfl)
    obtain ⟨⟨m0, m1, m2⟩, _, _, _⟩ := row3 (K1.out.at 1 rfl)
    have z0 := K1.out.lt 0 rfl
    have z1 := K1.out.lt 1 rfl
    clear hb
    go_wp2_with fail
    refine (CP.out _).mono ?_
    rintro _ V2 ⟨rfl, hb⟩
    have K2 := Lib.hid (K1.out.keep hb)
    have K3 := Lib.hid (K2.out.alloc (.cells #[.string a, .int .i64 q, .string d, .int .i64 g, .int .i64 e1, .int .i64 e2, .int .i64 e3, .int .i64 e4, .int .i64 e5, .int .i64 g1, .int .i64 g2, .int .i64 g3, .int .i64 g4, .int .i64 g5] 50))
    clear hb r0 r1 r2 s0 s1 s2 m0 m1 m2 z0 z1
    go_wp2_with fail
    refine (CA.out _).mono ?_
    rintro _ V3 ⟨rfl, hb⟩
    have K4 := Lib.hid (K3.out.keep hb)
    obtain ⟨⟨r0, r1, r2⟩, s0, s1, s2⟩ := row3 (K4.out.at 1 rfl)
    have z0 := K4.out.lt 1 rfl
    clear hb
    go_wp2_with fail
    refine bodyPost_ret (v := .tuple #[.agg #[.int .i64 lo, .bool ld, .string la], .int .i64 ee]) (by simp [results, Tryz.results17, go_sem, r0, r1, r2]) rfl ⟨rfl, ?_⟩
    exact (((K4.out.set 1 rfl 0 _ rfl).set 1 rfl 1 _ rfl).set 1 rfl 2 _ rfl).below
  by_cases h3 : (idxE x t).1 = 0
  · obtain ⟨b, o, c, e1, _, _, hb, hcell⟩ := HL1.out (by have := List.length_pos_iff.2 (typesE_zero hty).1; omega)
    simp only [Value.slice.injEq] at e1
    obtain ⟨rfl, _, rfl⟩ := e1
    have hn0 : 0 < n := by have := List.length_pos_iff.2 (typesE_zero hty).1; omega
    have hn1 : (0 : Int) < (n : Int) := by omega
    obtain ⟨y, hy⟩ : ∃ y, x.types[0]? = some y := ⟨_, List.getElem?_eq_getElem (by omega)⟩
    rw [look_first h1 (by rw [hN]; exact h2) h3, show x.types.getD 0 Lc.zero = y by simp [List.getD, hy]]
    rw [h3] at CI
    have hz : ¬ (0 : Int) = (N : Int) := by omega
    obtain ⟨c0, c1, c2⟩ := hcell 0 y hy
    simp only [Nat.zero_mul, Nat.add_zero] at c0 c1 c2
    obtain ⟨lo, ld, la⟩ := y
    unfold Lc.val
    dsimp only at c0 c1 c2 ⊢
    have C0 := Lib.hid c0
    have C1 := Lib.hid c1
    have C2 := Lib.hid c2
    clear h1 h2 h3 hI0 hle hck hty htr hft hN hn hcell hy c0 c1 c2 hf
    go_enter Tryz.func17, Tryz.ntmps17
    go_wp2_with fail
    refine (CI.out _ (HT.out.keep K0.out.below)).mono ?_
    rintro _ V ⟨rfl, hb⟩
    have K1 := Lib.hid (K0.out.keep hb)
    obtain ⟨⟨r0, r1, r2⟩, s0, s1, s2⟩ := row3 (K1.out.at 0 rfl)
    obtain ⟨⟨m0, m1, m2⟩, _, _, _⟩ := row3 (K1.out.at 1 rfl)
    have z0 := K1.out.lt 0 rfl
    have z1 := K1.out.lt 1 rfl
    clear hb
    have k0 := (K1.out.below.cell (p := ⟨b, o, none⟩) hb).trans C0.out
    have k1 := (K1.out.below.cell (p := ⟨b, o + 1, none⟩) hb).trans C1.out
    have k2 := (K1.out.below.cell (p := ⟨b, o + 2, none⟩) hb).trans C2.out
    have hbw : b < V.heap.size := Nat.lt_of_lt_of_le hb K1.out.below.size
    go_wp2_with fail
    refine bodyPost_ret (v := .tuple #[.agg #[.int .i64 lo, .bool ld, .string la], .int .i64 0]) (by simp [results, Tryz.results17, go_sem, r0, r1, r2]) rfl ⟨rfl, ?_⟩
    exact (((K1.out.set 0 rfl 0 _ rfl).set 0 rfl 1 _ rfl).set 0 rfl 2 _ rfl).below
  obtain ⟨m, hm⟩ : ∃ m, (idxE x t).1 = m + 1 := ⟨(idxE x t).1 - 1, by omega⟩
  have hmN : m + 1 < N := by omega
  obtain ⟨ya, k, y, hx, hy⟩ := right_mid hck (m := m) (by omega)
  rw [look_mid h1 (by rw [hN]; exact h2) hm hx hy]
  rw [hm] at CI
  have hkn := (List.getElem?_eq_some_iff.1 hy).1
  rw [hn] at hkn
  have hz : ¬ ((m + 1 : Nat) : Int) = (N : Int) := by omega
  have hz2 : ¬ ((m + 1 : Nat) : Int) = 0 := by omega
  have hkn' : (k : Int) < (n : Int) := by omega
  have hmN' : (m : Int) < (N : Int) := by omega
  obtain ⟨b, o, c, e1, _, _, hb, hcell⟩ := HL1.out (by omega)
  simp only [Value.slice.injEq] at e1
  obtain ⟨rfl, _, rfl⟩ := e1
  obtain ⟨b', o', c', e1, _, _, hb', hcell'⟩ := HR1.out (by omega)
  simp only [Value.slice.injEq] at e1
  obtain ⟨rfl, _, rfl⟩ := e1
  obtain ⟨c0, c1, c2⟩ := hcell k y hy
  obtain ⟨_, d1⟩ := hcell' m _ hx
  obtain ⟨lo, ld, la⟩ := y
  unfold Lc.val
  dsimp only at c0 c1 c2 d1 ⊢
  have C0 := Lib.hid c0
  have C1 := Lib.hid c1
  have C2 := Lib.hid c2
  have D1 := Lib.hid d1
  clear h1 h2 h3 hI0 hle hck hty htr hft hN hn hcell hcell' hx hy c0 c1 c2 d1 hm hf
  go_enter Tryz.func17, Tryz.ntmps17
  go_wp2_with fail
  refine (CI.out _ (HT.out.keep K0.out.below)).mono ?_
  rintro _ V ⟨rfl, hb⟩
  have K1 := Lib.hid (K0.out.keep hb)
  obtain ⟨⟨r0, r1, r2⟩, s0, s1, s2⟩ := row3 (K1.out.at 0 rfl)
  obtain ⟨⟨m0, m1, m2⟩, _, _, _⟩ := row3 (K1.out.at 1 rfl)
  have z0 := K1.out.lt 0 rfl
  have z1 := K1.out.lt 1 rfl
  clear hb
  have k0 := (K1.out.below.cell (p := ⟨b, o + k * 3, none⟩) hb).trans C0.out
  have k1 := (K1.out.below.cell (p := ⟨b, o + k * 3 + 1, none⟩) hb).trans C1.out
  have k2 := (K1.out.below.cell (p := ⟨b, o + k * 3 + 2, none⟩) hb).trans C2.out
  have k3 := (K1.out.below.cell (p := ⟨b', o' + m * 2 + 1, none⟩) hb').trans D1.out
  have hbw : b < V.heap.size := Nat.lt_of_lt_of_le hb K1.out.below.size
  have hbw' : b' < V.heap.size := Nat.lt_of_lt_of_le hb' K1.out.below.size
  go_upto_region 9 with fail
  go_region
  all_goals
    go_wp2_with fail
    first
      | (refine bodyPost_ret (v := .tuple #[.agg #[.int .i64 lo, .bool ld, .string la], .int .i64 0]) (by simp [results, Tryz.results17, go_sem, r0, r1, r2]) rfl ⟨rfl, ?_⟩; exact ((((K1.out.set 0 rfl 0 _ rfl).set 0 rfl 1 _ rfl).set 0 rfl 2 _ rfl).drew).below)
end Go.Proofs.YtlaplgaccjmbhaaGreatDoor.Px

