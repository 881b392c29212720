/- The methods last and footer of table.checker, and table.Check: whether a table is right. The function analemmaref40.Check: whether a table is right. The function table.Check: whether a table is right. -/
import Derived.Test.YtkpmmabdpeobaaaGreatDoorSU16
import Derived.Test.YtkpmmabdpeobaaaGreatDoorSU9
import Derived.Test.YtkpmmabdpeobaaaGreatDoorSU6
import Derived.Test.YtkpmmabdpeobaaaGreatDoorSU11
import Derived.Laws.EntriesVeiled
namespace Go.Proofs.YtkpmmabdpeobaaaGreatDoor.Px
open Go.RowKit
open Tb
theorem loc_ne2 {y l : Lc} (h : y ≠ l) : ∀ X : World, (if y.off = l.off then (if y.dst = l.dst then (if y.abbr.toList = l.abbr.toList then Result.ok (Next.value (Value.bool false)) X else Result.ok (Next.value (Value.bool true)) X) else Result.ok (Next.value (Value.bool true)) X) else Result.ok (Next.value (Value.bool true)) X) = Result.ok (Next.value (Value.bool true)) X := by
 intro X
 by_cases h1 : y.off = l.off
 case neg => rw [if_neg h1]
 rw [if_pos h1]
 by_cases h2 : y.dst = l.dst
 case neg => rw [if_neg h2]
 rw [if_pos h2]
 by_cases h3 : y.abbr.toList = l.abbr.toList
 case neg => rw [if_neg h3]
 exfalso
 apply h
 obtain ⟨_, _, _⟩ := y
 obtain ⟨_, _, _⟩ := l
 simp only [Lc.mk.injEq]
 exact ⟨h1, h2, ba_eq h3⟩
theorem last_of {x : Tab} {m : Nat} (h : x.trans.length = m + 1) {t : Tr} (ht : x.trans[m]? = some t) : x.last = t := by
 unfold Tab.last
 rw [List.getLast?_eq_getElem?, h, Nat.add_sub_cancel, ht]
 rfl
theorem last_none {x : Tab} (h : x.trans.length = 0) : x.last = ⟨0, 0⟩ := by
 unfold Tab.last
 rw [List.length_eq_zero_iff.1 h]
 rfl
set_option maxHeartbeats 2000000 in
set_option maxRecDepth 100000 in
theorem last_any (x : Tab) (tv rv : Value) (f : ByteArray) (W : World) (h : TabV W tv rv f x) :
 Calls Tryz.prog 105 #[.agg #[tv, rv, .string f]] W fun e w' => e = .returned (.agg #[.int .i64 x.last.at', .int .i64 x.last.ty]) ∧ Below W.heap.size W w' := by
 obtain ⟨N, hN⟩ : ∃ n, x.trans.length = n := ⟨_, rfl⟩
 cases N with
 | zero =>
   obtain ⟨a, c, rfl, _, _⟩ := h.trans.slice
   rw [last_none hN, hN]
   have K0 := Lib.hid (((Kp.start W).alloc (.cells #[tv, .slice a 0 c, .string f] 105)).allocAt (W.heap.size + 1) (by simp) (.cells #[.int .i64 0, .int .i64 0] 36))
   clear h
   go_enter Tryz.func105, Tryz.ntmps105
   go_wp2_with fail
   refine bodyPost_ret (v := .agg #[.int .i64 0, .int .i64 0]) (by simp [results, Tryz.results105, go_sem]) rfl ⟨rfl, ?_⟩
   exact K0.out.below
 | succ m =>
   obtain ⟨b, o, c, hrv, h1, h2, hb, hcell⟩ := h.trans.all (by omega)
   subst hrv
   obtain ⟨t, ht⟩ : ∃ t, x.trans[m]? = some t := ⟨_, List.getElem?_eq_getElem (by omega)⟩
   obtain ⟨c0, c1⟩ := hcell m t ht
   rw [last_of hN ht, hN]
   rw [hN] at h1
   unfold maxLen at h2
   obtain ⟨ta, ty⟩ := t
   dsimp only at c0 c1 ⊢
   have i0 : (0 : Int) < ((m + 1 : Nat) : Int) := by omega
   have K0 := Lib.hid (((Kp.start W).alloc (.cells #[tv, .slice (some ⟨b, o, none⟩) (m + 1) c, .string f] 105)).allocAt (W.heap.size + 1) (by simp) (.cells #[.int .i64 ta, .int .i64 ty] 36))
   clear h hcell ht hN
   go_enter Tryz.func105, Tryz.ntmps105
   go_wp2_with fail
   refine bodyPost_ret (v := .agg #[.int .i64 ta, .int .i64 ty]) (by simp [results, Tryz.results105, go_sem]) rfl ⟨rfl, ?_⟩
   exact K0.out.below
theorem fin_size (F : Fl) (l : List UInt8) : (finG F l).1.std.size ≤ 1000000 ∧ (finG F l).1.dst.size ≤ 1000000 := by
 unfold finG
 by_cases h : 100 < l.length
 · rw [if_pos h]; exact ⟨by decide, by decide⟩
 · rw [if_neg h]
   have := parse_size F l
   unfold Pr.fin
   split
   · exact ⟨by decide, by decide⟩
   · dsimp only
     omega
theorem last_type {x : Tab} (h1 : typesE x.types = 0) (h2 : transE x = 0) : ∃ (k : Nat) (y : Lc), x.last.ty = (k : Int) ∧ x.types[k]? = some y ∧ x.types.getD x.last.ty.toNat Lc.zero = y := by
 have hn := List.length_pos_iff.2 (typesE_zero h1).1
 have hk : 0 ≤ x.last.ty ∧ x.last.ty < x.types.length := by
  unfold Tab.last
  cases ht : x.trans.getLast? with
  | none => simp; omega
  | some t => exact (transGo_ok _ _ _ _ h2).ty t (List.mem_of_getLast? ht)
 obtain ⟨k, e⟩ : ∃ k : Nat, x.last.ty = (k : Int) := ⟨x.last.ty.toNat, by omega⟩
 have hlt : k < x.types.length := by omega
 exact ⟨k, x.types[k], e, List.getElem?_eq_getElem hlt, by rw [e, Int.toNat_natCast, getD_mem hlt]⟩
theorem atL_any (p : Pos) (t : Int) (ha : p.std.size ≤ 1000000) (hc : p.dst.size ≤ 1000000) (w : World) (hE : EnvAt w) :
 Calls Tryz.prog 106 #[p.val, .int .i64 t] w fun e w' => e = .returned (.tuple #[(atL p t).1.val, .int .i64 (atL p t).2]) ∧ Below w.heap.size w w' := by
 have := at_any p t ha hc w hE.before hE.kinds
 rwa [at_is] at this
theorem foot_ok {x : Tab} {y : Lc} (hy : x.types.getD x.last.ty.toNat Lc.zero = y) (h0 : (finG prF x.foot).2 = 0) (he : (atL (finG prF x.foot).1 x.last.at').2 = 0) (hl : (atL (finG prF x.foot).1 x.last.at').1 = y) : footE x = 0 := by
 unfold footE
 rw [← fin_two, h0, if_neg (fun h => h rfl), hy, if_pos (Prod.ext hl he)]
theorem foot_last {x : Tab} {y : Lc} (hy : x.types.getD x.last.ty.toNat Lc.zero = y) (h0 : (finG prF x.foot).2 = 0) (h : (atL (finG prF x.foot).1 x.last.at').2 ≠ 0 ∨ (atL (finG prF x.foot).1 x.last.at').1 ≠ y) : footE x = 16 := by
 unfold footE
 rw [← fin_two, h0, if_neg (fun h => h rfl), hy, if_neg]
 intro e
 rw [e] at h
 rcases h with h | h <;> exact h rfl
theorem foot_bad {x : Tab} (h0 : (finG prF x.foot).2 ≠ 0) : footE x = (finG prF x.foot).2 := by
 unfold footE
 rw [← fin_two, if_pos h0]
set_option maxHeartbeats 4000000 in
set_option maxRecDepth 100000 in
theorem footer_any (x : Tab) (tv rv : Value) (f : ByteArray) (W : World) (h : TabV W tv rv f x) (hE : EnvAt W) (h1 : typesE x.types = 0) (h2 : transE x = 0) :
 Calls Tryz.prog 57 #[.agg #[tv, rv, .string f]] W fun e w' => e = .returned (.int .i64 (footE x)) ∧ Below W.heap.size W w' := by
 obtain ⟨k, y, hk, hy, hg⟩ := last_type h1 h2
 have hf := h.foot
 have HT := Lib.hid h
 have HE := Lib.hid hE
 have CP := Lib.hid (fun w hE => parse_any x.foot w hE)
 rw [← hf] at CP
 have hsz := fin_size prF x.foot
 have FO := Lib.hid (fun a b c => foot_ok (x := x) (y := y) hg a b c)
 have FL := Lib.hid (fun a b => foot_last (x := x) (y := y) hg a b)
 have FB := Lib.hid (fun a => foot_bad (x := x) a)
 obtain ⟨P, hP⟩ : ∃ P, (finG prF x.foot).1 = P := ⟨_, rfl⟩
 obtain ⟨E, hEq⟩ : ∃ E, (finG prF x.foot).2 = E := ⟨_, rfl⟩
 rw [hP, hEq] at CP
 rw [hP] at hsz
 rw [hP, hEq] at FO FL
 rw [hEq] at FB
 have CA := Lib.hid (fun w hE => atL_any P x.last.at' hsz.1 hsz.2 w hE)
 obtain ⟨A, hA⟩ : ∃ A, atL P x.last.at' = A := ⟨_, rfl⟩
 rw [hA] at CA FO FL
 obtain ⟨b, o, c, hc, h3, h4, hb, hcell⟩ := h.types.all (by have := (List.getElem?_eq_some_iff.1 hy).1; omega)
 subst hc
 obtain ⟨c0, c1, c2⟩ := hcell k y hy
 have hkn := (List.getElem?_eq_some_iff.1 hy).1
 have HLL := Lib.hid (fun w h => last_any x (.slice (some ⟨b, o, none⟩) x.types.length c) rv f w h)
 obtain ⟨n, hn⟩ : ∃ n, x.types.length = n := ⟨_, rfl⟩
 rw [hn] at HT HLL h3 hkn
 rw [hn]
 obtain ⟨Z, hZ⟩ : ∃ Z, footE x = Z := ⟨_, rfl⟩
 rw [hZ] at FO FL FB
 rw [hZ]
 obtain ⟨ta, hta⟩ : ∃ t, x.last.at' = t := ⟨_, rfl⟩
 rw [hta] at CA
 rw [hta, hk] at HLL
 obtain ⟨a, q, d, g, ⟨e1, e2, e3, e4, e5⟩, ⟨g1, g2, g3, g4, g5⟩⟩ := P
 unfold Pos.val at CP CA
 obtain ⟨⟨lo, ld, la⟩, ee⟩ := A
 obtain ⟨yo, yd, ya⟩ := y
 unfold Lc.val at CA
 dsimp only at CP CA FO FL FB c0 c1 c2
 have K0 := Lib.hid ((Kp.start W).alloc (.cells #[.slice (some ⟨b, o, none⟩) n c, rv, .string f] 105))
 have hkn' : (k : Int) < (n : Int) := by omega
 have hC0 := Lib.hid c0
 have hC1 := Lib.hid c1
 have hC2 := Lib.hid c2
 unfold maxLen at h4
 clear h hE h1 h2 hk hy hg hf hsz hP hEq hA hcell hn hZ hta c0 c1 c2
 by_cases hE0 : E = 0
 · subst hE0
   by_cases he0 : ee = 0
   · subst he0
     by_cases hl : (⟨lo, ld, la⟩ : Lc) = ⟨yo, yd, ya⟩
     · have HZ := Lib.hid (FO.out rfl rfl hl)
       simp only [Lc.mk.injEq] at hl
       obtain ⟨rfl, rfl, rfl⟩ := hl
       go_enter Tryz.func57, Tryz.ntmps57
       go_wp2_with fail
       refine (CP.out _ (HE.out.keep K0.out.below)).mono ?_
       rintro _ V ⟨rfl, hbv⟩
       have K1 := Lib.hid (K0.out.keep hbv)
       have K2 := Lib.hid (K1.out.alloc (.cells #[.string a, .int .i64 q, .string d, .int .i64 g, .int .i64 e1, .int .i64 e2, .int .i64 e3, .int .i64 e4, .int .i64 e5, .int .i64 g1, .int .i64 g2, .int .i64 g3, .int .i64 g4, .int .i64 g5] 50))
       obtain ⟨⟨m0, m1, m2⟩, _, _, _⟩ := row3 (K1.out.at 0 rfl)
       have z0 := K1.out.lt 0 rfl
       clear hbv
       go_wp2_with fail
       refine (HLL.out _ (HT.out.keep K2.out.below)).mono ?_
       rintro _ V2 ⟨rfl, hbv⟩
       have K3 := Lib.hid (K2.out.keep hbv)
       have K4 := Lib.hid (K3.out.alloc (.cells #[.int .i64 ta, .int .i64 k] 36))
       obtain ⟨p0, p1, p2, p3, p4, p5, p6, p7, p8, p9, p10, p11, p12, p13⟩ := row14 (K3.out.at 0 rfl)
       have z1 := K3.out.lt 0 rfl
       clear hbv m0 m1 m2 z0
       go_wp2_with fail
       refine (CA.out _ (HE.out.keep K4.out.below)).mono ?_
       rintro _ V3 ⟨rfl, hbv⟩
       have K5 := Lib.hid (K4.out.keep hbv)
       have K6 := Lib.hid (K5.out.alloc (.cells #[.int .i64 lo, .bool ld, .string la] 28))
       obtain ⟨⟨m0, m1, m2⟩, _, _, _⟩ := row3 (K5.out.at 2 rfl)
       obtain ⟨n0, n1⟩ := row2 (K5.out.at 0 rfl)
       have z0 := K5.out.lt 2 rfl
       have z2 := K5.out.lt 0 rfl
       have c0 := (K5.out.below.cell (p := ⟨b, o + k * 3, none⟩) hb).trans hC0.out
       have c1 := (K5.out.below.cell (p := ⟨b, o + k * 3 + 1, none⟩) hb).trans hC1.out
       have c2 := (K5.out.below.cell (p := ⟨b, o + k * 3 + 2, none⟩) hb).trans hC2.out
       have hbw : b < V3.heap.size := Nat.lt_of_lt_of_le hb K5.out.below.size
       clear hbv p0 p1 p2 p3 p4 p5 p6 p7 p8 p9 p10 p11 p12 p13 z1
       go_upto_region 6 with fail
       go_quiet (fail)
       go_wp2_with fail
       go_ret
       exact ⟨by rw [HZ.out]; rfl, Civ.below_drewN K6.out.below _⟩
     · have HQ := Lib.hid (loc_ne2 hl)
       dsimp only at HQ
       have HZ := Lib.hid (FL.out rfl (.inr hl))
       clear hl
       go_enter Tryz.func57, Tryz.ntmps57
       go_wp2_with fail
       refine (CP.out _ (HE.out.keep K0.out.below)).mono ?_
       rintro _ V ⟨rfl, hbv⟩
       have K1 := Lib.hid (K0.out.keep hbv)
       have K2 := Lib.hid (K1.out.alloc (.cells #[.string a, .int .i64 q, .string d, .int .i64 g, .int .i64 e1, .int .i64 e2, .int .i64 e3, .int .i64 e4, .int .i64 e5, .int .i64 g1, .int .i64 g2, .int .i64 g3, .int .i64 g4, .int .i64 g5] 50))
       obtain ⟨⟨m0, m1, m2⟩, _, _, _⟩ := row3 (K1.out.at 0 rfl)
       have z0 := K1.out.lt 0 rfl
       clear hbv
       go_wp2_with fail
       refine (HLL.out _ (HT.out.keep K2.out.below)).mono ?_
       rintro _ V2 ⟨rfl, hbv⟩
       have K3 := Lib.hid (K2.out.keep hbv)
       have K4 := Lib.hid (K3.out.alloc (.cells #[.int .i64 ta, .int .i64 k] 36))
       obtain ⟨p0, p1, p2, p3, p4, p5, p6, p7, p8, p9, p10, p11, p12, p13⟩ := row14 (K3.out.at 0 rfl)
       have z1 := K3.out.lt 0 rfl
       clear hbv m0 m1 m2 z0
       go_wp2_with fail
       refine (CA.out _ (HE.out.keep K4.out.below)).mono ?_
       rintro _ V3 ⟨rfl, hbv⟩
       have K5 := Lib.hid (K4.out.keep hbv)
       have K6 := Lib.hid (K5.out.alloc (.cells #[.int .i64 lo, .bool ld, .string la] 28))
       obtain ⟨⟨m0, m1, m2⟩, _, _, _⟩ := row3 (K5.out.at 2 rfl)
       obtain ⟨n0, n1⟩ := row2 (K5.out.at 0 rfl)
       have z0 := K5.out.lt 2 rfl
       have z2 := K5.out.lt 0 rfl
       have c0 := (K5.out.below.cell (p := ⟨b, o + k * 3, none⟩) hb).trans hC0.out
       have c1 := (K5.out.below.cell (p := ⟨b, o + k * 3 + 1, none⟩) hb).trans hC1.out
       have c2 := (K5.out.below.cell (p := ⟨b, o + k * 3 + 2, none⟩) hb).trans hC2.out
       have hbw : b < V3.heap.size := Nat.lt_of_lt_of_le hb K5.out.below.size
       clear hbv p0 p1 p2 p3 p4 p5 p6 p7 p8 p9 p10 p11 p12 p13 z1
       have hq := HQ.out
       go_upto_region 6 with fail
       go_quiet (fail)
       go_wp2_with fail
       go_ret
       exact ⟨by rw [HZ.out]; rfl, Civ.below_drewN K6.out.below _⟩
   · have HZ := Lib.hid (FL.out rfl (.inl he0))
     go_enter Tryz.func57, Tryz.ntmps57
     go_wp2_with fail
     refine (CP.out _ (HE.out.keep K0.out.below)).mono ?_
     rintro _ V ⟨rfl, hbv⟩
     have K1 := Lib.hid (K0.out.keep hbv)
     have K2 := Lib.hid (K1.out.alloc (.cells #[.string a, .int .i64 q, .string d, .int .i64 g, .int .i64 e1, .int .i64 e2, .int .i64 e3, .int .i64 e4, .int .i64 e5, .int .i64 g1, .int .i64 g2, .int .i64 g3, .int .i64 g4, .int .i64 g5] 50))
     obtain ⟨⟨m0, m1, m2⟩, _, _, _⟩ := row3 (K1.out.at 0 rfl)
     have z0 := K1.out.lt 0 rfl
     clear hbv
     go_wp2_with fail
     refine (HLL.out _ (HT.out.keep K2.out.below)).mono ?_
     rintro _ V2 ⟨rfl, hbv⟩
     have K3 := Lib.hid (K2.out.keep hbv)
     have K4 := Lib.hid (K3.out.alloc (.cells #[.int .i64 ta, .int .i64 k] 36))
     obtain ⟨p0, p1, p2, p3, p4, p5, p6, p7, p8, p9, p10, p11, p12, p13⟩ := row14 (K3.out.at 0 rfl)
     have z1 := K3.out.lt 0 rfl
     clear hbv m0 m1 m2 z0
     go_wp2_with fail
     refine (CA.out _ (HE.out.keep K4.out.below)).mono ?_
     rintro _ V3 ⟨rfl, hbv⟩
     have K5 := Lib.hid (K4.out.keep hbv)
     have K6 := Lib.hid (K5.out.alloc (.cells #[.int .i64 lo, .bool ld, .string la] 28))
     obtain ⟨⟨m0, m1, m2⟩, _, _, _⟩ := row3 (K5.out.at 2 rfl)
     obtain ⟨n0, n1⟩ := row2 (K5.out.at 0 rfl)
     have z0 := K5.out.lt 2 rfl
     have z2 := K5.out.lt 0 rfl
     have c0 := (K5.out.below.cell (p := ⟨b, o + k * 3, none⟩) hb).trans hC0.out
     have c1 := (K5.out.below.cell (p := ⟨b, o + k * 3 + 1, none⟩) hb).trans hC1.out
     have c2 := (K5.out.below.cell (p := ⟨b, o + k * 3 + 2, none⟩) hb).trans hC2.out
     have hbw : b < V3.heap.size := Nat.lt_of_lt_of_le hb K5.out.below.size
     clear hbv p0 p1 p2 p3 p4 p5 p6 p7 p8 p9 p10 p11 p12 p13 z1
     go_upto_region 6 with fail
     go_quiet (fail)
     go_wp2_with fail
     go_ret
     exact ⟨by rw [HZ.out]; rfl, Civ.below_drewN K6.out.below _⟩
 · have HZ := Lib.hid (FB.out hE0)
   go_enter Tryz.func57, Tryz.ntmps57
   go_wp2_with fail
   refine (CP.out _ (HE.out.keep K0.out.below)).mono ?_
   rintro _ V ⟨rfl, hbv⟩
   have K1 := Lib.hid (K0.out.keep hbv)
   have K2 := Lib.hid (K1.out.alloc (.cells #[.string a, .int .i64 q, .string d, .int .i64 g, .int .i64 e1, .int .i64 e2, .int .i64 e3, .int .i64 e4, .int .i64 e5, .int .i64 g1, .int .i64 g2, .int .i64 g3, .int .i64 g4, .int .i64 g5] 50))
   clear hbv
   go_wp2_with fail
   go_ret
   exact ⟨by rw [HZ.out]; rfl, K2.out.below⟩
end Go.Proofs.YtkpmmabdpeobaaaGreatDoor.Px
namespace Go.Proofs.YtkpmmabdpeobaaaGreatDoor.Px
open Go.RowKit
open Tb
theorem ratL_any (p : Pos) (t : Int) (ha : p.std.size ≤ 1000000) (hc : p.dst.size ≤ 1000000) (w : World) :
 Calls Tryz.prog 47 #[p.val, .int .i64 t] w fun e w' => e = .returned (.tuple #[(atL p t).1.val, .int .i64 (atL p t).2]) ∧ Below w.heap.size w w' := by
 have := ref_at_any p t ha hc w
 rwa [at_is] at this
theorem check_types {x : Tab} (h : typesE x.types ≠ 0) : checkE x = typesE x.types := by unfold checkE; rw [if_pos h]
theorem check_trans {x : Tab} (h : typesE x.types = 0) (h2 : transE x ≠ 0) : checkE x = transE x := by unfold checkE; rw [if_neg (fun q => q h), if_pos h2]
theorem check_foot {x : Tab} (h : typesE x.types = 0) (h2 : transE x = 0) : checkE x = footE x := by unfold checkE; rw [if_neg (fun q => q h), if_neg (fun q => q h2)]
set_option maxHeartbeats 4000000 in
set_option maxRecDepth 100000 in
theorem rcheck_any (x : Tab) (tv rv : Value) (f : ByteArray) (W : World) (h : TabV W tv rv f x) :
 Calls Tryz.prog 34 #[.agg #[tv, rv, .string f]] W fun e w' => e = .returned (.int .i64 (checkE x)) ∧ Below W.heap.size W w' := by
 have K0 := Lib.hid ((Kp.start W).alloc (.cells #[tv, rv, .string f] 25))
 have CT := Lib.hid (fun w h => rtypes_any x.types tv w h)
 have CR := Lib.hid (fun w h => rtrans_any x tv rv f w h)
 have HT := Lib.hid h
 have z0 := K0.out.lt 0 rfl
 by_cases h1 : typesE x.types = 0
 case neg =>
  rw [check_types h1]
  obtain ⟨E, hE⟩ : ∃ E, typesE x.types = E := ⟨_, rfl⟩
  rw [hE] at CT h1 ⊢
  clear hE h CR
  go_enter Tryz.func34, Tryz.ntmps34
  go_wp2_with fail
  refine (CT.out _ (HT.out.types.keep K0.out.below) HT.out.lcs).mono ?_
  rintro _ V ⟨rfl, hb⟩
  have K1 := Lib.hid (K0.out.keep hb)
  clear hb
  go_wp2_with fail
  go_ret
  exact ⟨rfl, K1.out.below⟩
 by_cases h2 : transE x = 0
 case neg =>
  rw [check_trans h1 h2]
  obtain ⟨E, hE⟩ : ∃ E, transE x = E := ⟨_, rfl⟩
  rw [h1] at CT
  rw [hE] at CR h2 ⊢
  clear hE h h1
  go_enter Tryz.func34, Tryz.ntmps34
  go_wp2_with fail
  refine (CT.out _ (HT.out.types.keep K0.out.below) HT.out.lcs).mono ?_
  rintro _ V ⟨rfl, hb⟩
  have K1 := Lib.hid (K0.out.keep hb)
  obtain ⟨⟨m0, m1, m2⟩, _, _, _⟩ := row3 (K1.out.at 0 rfl)
  have z1 := K1.out.lt 0 rfl
  clear hb
  go_wp2_with fail
  refine (CR.out _ (HT.out.keep K1.out.below)).mono ?_
  rintro _ V2 ⟨rfl, hb⟩
  have K2 := Lib.hid (K1.out.keep hb)
  clear hb
  go_wp2_with fail
  go_ret
  exact ⟨rfl, K2.out.below⟩
 rw [check_foot h1 h2]
 obtain ⟨k, y, hk, hy, hg⟩ := last_type h1 h2
 have hf := h.foot
 have CP := Lib.hid (fun w => ref_parse_any x.foot w)
 rw [← hf, ← fin_two] at CP
 have hsz := fin_size prF x.foot
 have FO := Lib.hid (fun a b c => foot_ok (x := x) (y := y) hg a b c)
 have FL := Lib.hid (fun a b => foot_last (x := x) (y := y) hg a b)
 have FB := Lib.hid (fun a => foot_bad (x := x) a)
 obtain ⟨P, hP⟩ : ∃ P, (finG prF x.foot).1 = P := ⟨_, rfl⟩
 obtain ⟨E, hEq⟩ : ∃ E, (finG prF x.foot).2 = E := ⟨_, rfl⟩
 rw [hP, hEq] at CP
 rw [hP] at hsz
 rw [hP, hEq] at FO FL
 rw [hEq] at FB
 have CA := Lib.hid (fun w => ratL_any P x.last.at' hsz.1 hsz.2 w)
 obtain ⟨A, hA⟩ : ∃ A, atL P x.last.at' = A := ⟨_, rfl⟩
 rw [hA] at CA FO FL
 obtain ⟨b, o, c, hc, h3, h4, hb, hcell⟩ := h.types.all (by have := (List.getElem?_eq_some_iff.1 hy).1; omega)
 subst hc
 obtain ⟨c0, c1, c2⟩ := hcell k y hy
 have hkn := (List.getElem?_eq_some_iff.1 hy).1
 obtain ⟨n, hn⟩ : ∃ n, x.types.length = n := ⟨_, rfl⟩
 rw [hn] at HT CT CR K0 z0 h3 hkn
 rw [hn]
 rw [h1] at CT
 rw [h2] at CR
 obtain ⟨Z, hZ⟩ : ∃ Z, footE x = Z := ⟨_, rfl⟩
 rw [hZ] at FO FL FB
 rw [hZ]
 obtain ⟨a, q, d, g, ⟨e1, e2, e3, e4, e5⟩, ⟨g1, g2, g3, g4, g5⟩⟩ := P
 unfold Pos.val at CP CA
 obtain ⟨⟨lo, ld, la⟩, ee⟩ := A
 obtain ⟨yo, yd, ya⟩ := y
 unfold Lc.val at CA
 dsimp only at CP CA FO FL FB c0 c1 c2
 have hkn' : (k : Int) < (n : Int) := by omega
 have hC0 := Lib.hid c0
 have hC1 := Lib.hid c1
 have hC2 := Lib.hid c2
 unfold maxLen at h4
 have hL0 := Lib.hid (fun h => last_none (x := x) h)
 have hL1 := Lib.hid (fun m h t ht => last_of (x := x) (m := m) h (t := t) ht)
 obtain ⟨N, hN⟩ : ∃ n, x.trans.length = n := ⟨_, rfl⟩
 have HNN := Lib.hid hN
 have hRall := fun h0 => h.trans.all h0
 obtain ⟨ra, rc, hrv, r1, r2⟩ := h.trans.slice
 subst hrv
 clear hy hg hf hsz hP hEq hA hcell hn hZ c0 c1 c2 h1 h2
 have HRA := Lib.hid hRall
 have Hk := Lib.hid hk
 clear hN hRall hk h
 by_cases hE0 : E = 0
 case neg =>
  have HZ := Lib.hid (FB.out hE0)
  go_enter Tryz.func34, Tryz.ntmps34
  go_wp2_with fail
  refine (CT.out _ (HT.out.types.keep K0.out.below) HT.out.lcs).mono ?_
  rintro _ V ⟨rfl, hbv⟩
  have K1 := Lib.hid (K0.out.keep hbv)
  obtain ⟨⟨m0, m1, m2⟩, _, _, _⟩ := row3 (K1.out.at 0 rfl)
  have z1 := K1.out.lt 0 rfl
  clear hbv
  go_wp2_with fail
  refine (CR.out _ (HT.out.keep K1.out.below)).mono ?_
  rintro _ V2 ⟨rfl, hbv⟩
  have K2 := Lib.hid (K1.out.keep hbv)
  clear hbv m0 m1 m2 z1
  obtain ⟨⟨m0, m1, m2⟩, _, _, _⟩ := row3 (K2.out.at 0 rfl)
  have z1 := K2.out.lt 0 rfl
  go_wp2_with fail
  refine (CP.out _).mono ?_
  rintro _ V3 ⟨rfl, hbv⟩
  have K3 := Lib.hid (K2.out.keep hbv)
  have K4 := Lib.hid (K3.out.alloc (.cells #[.string a, .int .i64 q, .string d, .int .i64 g, .int .i64 e1, .int .i64 e2, .int .i64 e3, .int .i64 e4, .int .i64 e5, .int .i64 g1, .int .i64 g2, .int .i64 g3, .int .i64 g4, .int .i64 g5] 50))
  clear hbv m0 m1 m2 z1
  go_wp2_with fail
  go_ret
  exact ⟨by rw [HZ.out]; rfl, K4.out.below⟩
 subst hE0
 cases N with
 | zero =>
   have hN := HNN.out
   have hk := Hk.out
   rw [hL0.out hN] at CA hk
   rw [hN] at HT CR K0 z0 r1
   rw [hN]
   simp only at hk
   obtain rfl : k = 0 := by omega
   dsimp only at CA
   simp only [Nat.zero_mul, Nat.add_zero] at hC0 hC1 hC2
   clear HRA HNN Hk hL0 hL1 hk hN
   by_cases he0 : ee = 0
   case neg =>
    have HZ := Lib.hid (FL.out rfl (.inl he0))
    go_enter Tryz.func34, Tryz.ntmps34
    go_wp2_with fail
    refine (CT.out _ (HT.out.types.keep K0.out.below) HT.out.lcs).mono ?_
    rintro _ V ⟨rfl, hbv⟩
    have K1 := Lib.hid (K0.out.keep hbv)
    obtain ⟨⟨m0, m1, m2⟩, _, _, _⟩ := row3 (K1.out.at 0 rfl)
    have z1 := K1.out.lt 0 rfl
    clear hbv
    go_wp2_with fail
    refine (CR.out _ (HT.out.keep K1.out.below)).mono ?_
    rintro _ V2 ⟨rfl, hbv⟩
    have K2 := Lib.hid (K1.out.keep hbv)
    clear hbv m0 m1 m2 z1
    obtain ⟨⟨m0, m1, m2⟩, _, _, _⟩ := row3 (K2.out.at 0 rfl)
    have z1 := K2.out.lt 0 rfl
    go_wp2_with fail
    refine (CP.out _).mono ?_
    rintro _ V3 ⟨rfl, hbv⟩
    have K3 := Lib.hid (K2.out.keep hbv)
    have K4 := Lib.hid (K3.out.alloc (.cells #[.string a, .int .i64 q, .string d, .int .i64 g, .int .i64 e1, .int .i64 e2, .int .i64 e3, .int .i64 e4, .int .i64 e5, .int .i64 g1, .int .i64 g2, .int .i64 g3, .int .i64 g4, .int .i64 g5] 50))
    clear hbv m0 m1 m2 z1
    obtain ⟨⟨m0, m1, m2⟩, _, _, _⟩ := row3 (K3.out.at 0 rfl)
    have z1 := K3.out.lt 0 rfl
    go_wp2_with fail
    refine (CA.out _).mono ?_
    rintro _ V4 ⟨rfl, hbv⟩
    have K5 := Lib.hid (K4.out.keep hbv)
    have K6 := Lib.hid (K5.out.alloc (.cells #[.int .i64 lo, .bool ld, .string la] 28))
    clear m0 m1 m2 z1
    obtain ⟨⟨m0, m1, m2⟩, _, _, _⟩ := row3 (K5.out.at 1 rfl)
    have z0 := K5.out.lt 1 rfl
    have c0 := (K5.out.below.cell (p := ⟨b, o, none⟩) hb).trans hC0.out
    have c1 := (K5.out.below.cell (p := ⟨b, o + 1, none⟩) hb).trans hC1.out
    have c2 := (K5.out.below.cell (p := ⟨b, o + 2, none⟩) hb).trans hC2.out
    have hbw : b < V4.heap.size := Nat.lt_of_lt_of_le hb K5.out.below.size
    clear hbv
    go_upto_region 16 with fail
    go_quiet (fail)
    go_wp2_with fail
    go_ret
    exact ⟨by rw [HZ.out]; rfl, Civ.below_drewN K6.out.below _⟩
   subst he0
   by_cases hl : (⟨lo, ld, la⟩ : Lc) = ⟨yo, yd, ya⟩
   case neg =>
    have HQ := Lib.hid (loc_ne2 hl)
    dsimp only at HQ
    have HZ := Lib.hid (FL.out rfl (.inr hl))
    clear hl
    go_enter Tryz.func34, Tryz.ntmps34
    go_wp2_with fail
    refine (CT.out _ (HT.out.types.keep K0.out.below) HT.out.lcs).mono ?_
    rintro _ V ⟨rfl, hbv⟩
    have K1 := Lib.hid (K0.out.keep hbv)
    obtain ⟨⟨m0, m1, m2⟩, _, _, _⟩ := row3 (K1.out.at 0 rfl)
    have z1 := K1.out.lt 0 rfl
    clear hbv
    go_wp2_with fail
    refine (CR.out _ (HT.out.keep K1.out.below)).mono ?_
    rintro _ V2 ⟨rfl, hbv⟩
    have K2 := Lib.hid (K1.out.keep hbv)
    clear hbv m0 m1 m2 z1
    obtain ⟨⟨m0, m1, m2⟩, _, _, _⟩ := row3 (K2.out.at 0 rfl)
    have z1 := K2.out.lt 0 rfl
    go_wp2_with fail
    refine (CP.out _).mono ?_
    rintro _ V3 ⟨rfl, hbv⟩
    have K3 := Lib.hid (K2.out.keep hbv)
    have K4 := Lib.hid (K3.out.alloc (.cells #[.string a, .int .i64 q, .string d, .int .i64 g, .int .i64 e1, .int .i64 e2, .int .i64 e3, .int .i64 e4, .int .i64 e5, .int .i64 g1, .int .i64 g2, .int .i64 g3, .int .i64 g4, .int .i64 g5] 50))
    clear hbv m0 m1 m2 z1
    obtain ⟨⟨m0, m1, m2⟩, _, _, _⟩ := row3 (K3.out.at 0 rfl)
    have z1 := K3.out.lt 0 rfl
    go_wp2_with fail
    refine (CA.out _).mono ?_
    rintro _ V4 ⟨rfl, hbv⟩
    have K5 := Lib.hid (K4.out.keep hbv)
    have K6 := Lib.hid (K5.out.alloc (.cells #[.int .i64 lo, .bool ld, .string la] 28))
    clear m0 m1 m2 z1
    obtain ⟨⟨m0, m1, m2⟩, _, _, _⟩ := row3 (K5.out.at 1 rfl)
    have z0 := K5.out.lt 1 rfl
    have c0 := (K5.out.below.cell (p := ⟨b, o, none⟩) hb).trans hC0.out
    have c1 := (K5.out.below.cell (p := ⟨b, o + 1, none⟩) hb).trans hC1.out
    have c2 := (K5.out.below.cell (p := ⟨b, o + 2, none⟩) hb).trans hC2.out
    have hbw : b < V4.heap.size := Nat.lt_of_lt_of_le hb K5.out.below.size
    clear hbv
    have hq := HQ.out
    go_upto_region 16 with fail
    go_quiet (fail)
    go_wp2_with fail
    go_ret
    exact ⟨by rw [HZ.out]; rfl, Civ.below_drewN K6.out.below _⟩
   have HZ := Lib.hid (FO.out rfl rfl hl)
   simp only [Lc.mk.injEq] at hl
   obtain ⟨rfl, rfl, rfl⟩ := hl
   go_enter Tryz.func34, Tryz.ntmps34
   go_wp2_with fail
   refine (CT.out _ (HT.out.types.keep K0.out.below) HT.out.lcs).mono ?_
   rintro _ V ⟨rfl, hbv⟩
   have K1 := Lib.hid (K0.out.keep hbv)
   obtain ⟨⟨m0, m1, m2⟩, _, _, _⟩ := row3 (K1.out.at 0 rfl)
   have z1 := K1.out.lt 0 rfl
   clear hbv
   go_wp2_with fail
   refine (CR.out _ (HT.out.keep K1.out.below)).mono ?_
   rintro _ V2 ⟨rfl, hbv⟩
   have K2 := Lib.hid (K1.out.keep hbv)
   clear hbv m0 m1 m2 z1
   obtain ⟨⟨m0, m1, m2⟩, _, _, _⟩ := row3 (K2.out.at 0 rfl)
   have z1 := K2.out.lt 0 rfl
   go_wp2_with fail
   refine (CP.out _).mono ?_
   rintro _ V3 ⟨rfl, hbv⟩
   have K3 := Lib.hid (K2.out.keep hbv)
   have K4 := Lib.hid (K3.out.alloc (.cells #[.string a, .int .i64 q, .string d, .int .i64 g, .int .i64 e1, .int .i64 e2, .int .i64 e3, .int .i64 e4, .int .i64 e5, .int .i64 g1, .int .i64 g2, .int .i64 g3, .int .i64 g4, .int .i64 g5] 50))
   clear hbv m0 m1 m2 z1
   obtain ⟨⟨m0, m1, m2⟩, _, _, _⟩ := row3 (K3.out.at 0 rfl)
   have z1 := K3.out.lt 0 rfl
   go_wp2_with fail
   refine (CA.out _).mono ?_
   rintro _ V4 ⟨rfl, hbv⟩
   have K5 := Lib.hid (K4.out.keep hbv)
   have K6 := Lib.hid (K5.out.alloc (.cells #[.int .i64 lo, .bool ld, .string la] 28))
   clear m0 m1 m2 z1
   obtain ⟨⟨m0, m1, m2⟩, _, _, _⟩ := row3 (K5.out.at 1 rfl)
   have z0 := K5.out.lt 1 rfl
   have c0 := (K5.out.below.cell (p := ⟨b, o, none⟩) hb).trans hC0.out
   have c1 := (K5.out.below.cell (p := ⟨b, o + 1, none⟩) hb).trans hC1.out
   have c2 := (K5.out.below.cell (p := ⟨b, o + 2, none⟩) hb).trans hC2.out
   have hbw : b < V4.heap.size := Nat.lt_of_lt_of_le hb K5.out.below.size
   clear hbv
   go_upto_region 16 with fail
   go_quiet (fail)
   go_wp2_with fail
   go_ret
   exact ⟨by rw [HZ.out]; rfl, Civ.below_drewN K6.out.below _⟩
 | succ m =>
   have hN := HNN.out
   have hk := Hk.out
   have hRall := HRA.out
   obtain ⟨b2, o2, c2, hrv, r3, r4, hb2, hcell⟩ := hRall (by omega)
   simp only [Value.slice.injEq] at hrv
   obtain ⟨rfl, _, rfl⟩ := hrv
   obtain ⟨t, ht⟩ : ∃ t, x.trans[m]? = some t := ⟨_, List.getElem?_eq_getElem (by omega)⟩
   obtain ⟨d0, d1⟩ := hcell m t ht
   rw [hL1.out m hN t ht] at CA hk
   rw [hN] at HT CR K0 z0 r1
   rw [hN]
   obtain ⟨ta, ty⟩ := t
   dsimp only at d0 d1 hk CA
   subst hk
   unfold maxLen at r2
   have i0 : (0 : Int) < ((m + 1 : Nat) : Int) := by omega
   have hD0 := Lib.hid d0
   have hD1 := Lib.hid d1
   clear HRA HNN Hk hRall hL0 hL1 hN hcell ht d0 d1
   by_cases he0 : ee = 0
   case neg =>
    have HZ := Lib.hid (FL.out rfl (.inl he0))
    go_enter Tryz.func34, Tryz.ntmps34
    go_wp2_with fail
    refine (CT.out _ (HT.out.types.keep K0.out.below) HT.out.lcs).mono ?_
    rintro _ V ⟨rfl, hbv⟩
    have K1 := Lib.hid (K0.out.keep hbv)
    obtain ⟨⟨m0, m1, m2⟩, _, _, _⟩ := row3 (K1.out.at 0 rfl)
    have z1 := K1.out.lt 0 rfl
    clear hbv
    go_wp2_with fail
    refine (CR.out _ (HT.out.keep K1.out.below)).mono ?_
    rintro _ V2 ⟨rfl, hbv⟩
    have K2 := Lib.hid (K1.out.keep hbv)
    clear hbv m0 m1 m2 z1
    obtain ⟨⟨m0, m1, m2⟩, _, _, _⟩ := row3 (K2.out.at 0 rfl)
    have z1 := K2.out.lt 0 rfl
    go_wp2_with fail
    refine (CP.out _).mono ?_
    rintro _ V3 ⟨rfl, hbv⟩
    have K3 := Lib.hid (K2.out.keep hbv)
    have K4 := Lib.hid (K3.out.alloc (.cells #[.string a, .int .i64 q, .string d, .int .i64 g, .int .i64 e1, .int .i64 e2, .int .i64 e3, .int .i64 e4, .int .i64 e5, .int .i64 g1, .int .i64 g2, .int .i64 g3, .int .i64 g4, .int .i64 g5] 50))
    clear hbv m0 m1 m2 z1
    obtain ⟨⟨m0, m1, m2⟩, _, _, _⟩ := row3 (K3.out.at 0 rfl)
    have z1 := K3.out.lt 0 rfl
    have d0 := (K3.out.below.cell (p := ⟨b2, o2 + m * 2, none⟩) hb2).trans hD0.out
    have d1 := (K3.out.below.cell (p := ⟨b2, o2 + m * 2 + 1, none⟩) hb2).trans hD1.out
    have hbw2 : b2 < V3.heap.size := Nat.lt_of_lt_of_le hb2 K3.out.below.size
    go_wp2_with fail
    refine (CA.out _).mono ?_
    rintro _ V4 ⟨rfl, hbv⟩
    have K5 := Lib.hid (K4.out.keep hbv)
    have K6 := Lib.hid (K5.out.alloc (.cells #[.int .i64 lo, .bool ld, .string la] 28))
    clear m0 m1 m2 z1
    obtain ⟨⟨m0, m1, m2⟩, _, _, _⟩ := row3 (K5.out.at 1 rfl)
    have z0 := K5.out.lt 1 rfl
    have c0 := (K5.out.below.cell (p := ⟨b, o + k * 3, none⟩) hb).trans hC0.out
    have c1 := (K5.out.below.cell (p := ⟨b, o + k * 3 + 1, none⟩) hb).trans hC1.out
    have c2 := (K5.out.below.cell (p := ⟨b, o + k * 3 + 2, none⟩) hb).trans hC2.out
    have hbw : b < V4.heap.size := Nat.lt_of_lt_of_le hb K5.out.below.size
    clear hbv
    go_upto_region 16 with fail
    go_quiet (fail)
    go_wp2_with fail
    go_ret
    exact ⟨by rw [HZ.out]; rfl, Civ.below_drewN K6.out.below _⟩
   subst he0
   by_cases hl : (⟨lo, ld, la⟩ : Lc) = ⟨yo, yd, ya⟩
   case neg =>
    have HQ := Lib.hid (loc_ne2 hl)
    dsimp only at HQ
    have HZ := Lib.hid (FL.out rfl (.inr hl))
    clear hl
    go_enter Tryz.func34, Tryz.ntmps34
    go_wp2_with fail
    refine (CT.out _ (HT.out.types.keep K0.out.below) HT.out.lcs).mono ?_
    rintro _ V ⟨rfl, hbv⟩
    have K1 := Lib.hid (K0.out.keep hbv)
    obtain ⟨⟨m0, m1, m2⟩, _, _, _⟩ := row3 (K1.out.at 0 rfl)
    have z1 := K1.out.lt 0 rfl
    clear hbv
    go_wp2_with fail
    refine (CR.out _ (HT.out.keep K1.out.below)).mono ?_
    rintro _ V2 ⟨rfl, hbv⟩
    have K2 := Lib.hid (K1.out.keep hbv)
    clear hbv m0 m1 m2 z1
    obtain ⟨⟨m0, m1, m2⟩, _, _, _⟩ := row3 (K2.out.at 0 rfl)
    have z1 := K2.out.lt 0 rfl
    go_wp2_with fail
    refine (CP.out _).mono ?_
    rintro _ V3 ⟨rfl, hbv⟩
    have K3 := Lib.hid (K2.out.keep hbv)
    have K4 := Lib.hid (K3.out.alloc (.cells #[.string a, .int .i64 q, .string d, .int .i64 g, .int .i64 e1, .int .i64 e2, .int .i64 e3, .int .i64 e4, .int .i64 e5, .int .i64 g1, .int .i64 g2, .int .i64 g3, .int .i64 g4, .int .i64 g5] 50))
    clear hbv m0 m1 m2 z1
    obtain ⟨⟨m0, m1, m2⟩, _, _, _⟩ := row3 (K3.out.at 0 rfl)
    have z1 := K3.out.lt 0 rfl
    have d0 := (K3.out.below.cell (p := ⟨b2, o2 + m * 2, none⟩) hb2).trans hD0.out
    have d1 := (K3.out.below.cell (p := ⟨b2, o2 + m * 2 + 1, none⟩) hb2).trans hD1.out
    have hbw2 : b2 < V3.heap.size := Nat.lt_of_lt_of_le hb2 K3.out.below.size
    go_wp2_with fail
    refine (CA.out _).mono ?_
    rintro _ V4 ⟨rfl, hbv⟩
    have K5 := Lib.hid (K4.out.keep hbv)
    have K6 := Lib.hid (K5.out.alloc (.cells #[.int .i64 lo, .bool ld, .string la] 28))
    clear m0 m1 m2 z1
    obtain ⟨⟨m0, m1, m2⟩, _, _, _⟩ := row3 (K5.out.at 1 rfl)
    have z0 := K5.out.lt 1 rfl
    have c0 := (K5.out.below.cell (p := ⟨b, o + k * 3, none⟩) hb).trans hC0.out
    have c1 := (K5.out.below.cell (p := ⟨b, o + k * 3 + 1, none⟩) hb).trans hC1.out
    have c2 := (K5.out.below.cell (p := ⟨b, o + k * 3 + 2, none⟩) hb).trans hC2.out
    have hbw : b < V4.heap.size := Nat.lt_of_lt_of_le hb K5.out.below.size
    clear hbv
    have hq := HQ.out
    go_upto_region 16 with fail
    go_quiet (fail)
    go_wp2_with fail
    go_ret
    exact ⟨by rw [HZ.out]; rfl, Civ.below_drewN K6.out.below _⟩
   have HZ := Lib.hid (FO.out rfl rfl hl)
   simp only [Lc.mk.injEq] at hl
   obtain ⟨rfl, rfl, rfl⟩ := hl
   go_enter Tryz.func34, Tryz.ntmps34
   go_wp2_with fail
   refine (CT.out _ (HT.out.types.keep K0.out.below) HT.out.lcs).mono ?_
   rintro _ V ⟨rfl, hbv⟩
   have K1 := Lib.hid (K0.out.keep hbv)
   obtain ⟨⟨m0, m1, m2⟩, _, _, _⟩ := row3 (K1.out.at 0 rfl)
   have z1 := K1.out.lt 0 rfl
   clear hbv
   go_wp2_with fail
   refine (CR.out _ (HT.out.keep K1.out.below)).mono ?_
   rintro _ V2 ⟨rfl, hbv⟩
   have K2 := Lib.hid (K1.out.keep hbv)
   clear hbv m0 m1 m2 z1
   obtain ⟨⟨m0, m1, m2⟩, _, _, _⟩ := row3 (K2.out.at 0 rfl)
   have z1 := K2.out.lt 0 rfl
   go_wp2_with fail
   refine (CP.out _).mono ?_
   rintro _ V3 ⟨rfl, hbv⟩
   have K3 := Lib.hid (K2.out.keep hbv)
   have K4 := Lib.hid (K3.out.alloc (.cells #[.string a, .int .i64 q, .string d, .int .i64 g, .int .i64 e1, .int .i64 e2, .int .i64 e3, .int .i64 e4, .int .i64 e5, .int .i64 g1, .int .i64 g2, .int .i64 g3, .int .i64 g4, .int .i64 g5] 50))
   clear hbv m0 m1 m2 z1
   obtain ⟨⟨m0, m1, m2⟩, _, _, _⟩ := row3 (K3.out.at 0 rfl)
   have z1 := K3.out.lt 0 rfl
   have d0 := (K3.out.below.cell (p := ⟨b2, o2 + m * 2, none⟩) hb2).trans hD0.out
   have d1 := (K3.out.below.cell (p := ⟨b2, o2 + m * 2 + 1, none⟩) hb2).trans hD1.out
   have hbw2 : b2 < V3.heap.size := Nat.lt_of_lt_of_le hb2 K3.out.below.size
   go_wp2_with fail
   refine (CA.out _).mono ?_
   rintro _ V4 ⟨rfl, hbv⟩
   have K5 := Lib.hid (K4.out.keep hbv)
   have K6 := Lib.hid (K5.out.alloc (.cells #[.int .i64 lo, .bool ld, .string la] 28))
   clear m0 m1 m2 z1
   obtain ⟨⟨m0, m1, m2⟩, _, _, _⟩ := row3 (K5.out.at 1 rfl)
   have z0 := K5.out.lt 1 rfl
   have c0 := (K5.out.below.cell (p := ⟨b, o + k * 3, none⟩) hb).trans hC0.out
   have c1 := (K5.out.below.cell (p := ⟨b, o + k * 3 + 1, none⟩) hb).trans hC1.out
   have c2 := (K5.out.below.cell (p := ⟨b, o + k * 3 + 2, none⟩) hb).trans hC2.out
   have hbw : b < V4.heap.size := Nat.lt_of_lt_of_le hb K5.out.below.size
   clear hbv
   go_upto_region 16 with fail
   go_quiet (fail)
   go_wp2_with fail
   go_ret
   exact ⟨by rw [HZ.out]; rfl, Civ.below_drewN K6.out.below _⟩
end Go.Proofs.YtkpmmabdpeobaaaGreatDoor.Px
namespace Go.Proofs.YtkpmmabdpeobaaaGreatDoor.Px
open Go.RowKit
open Tb
theorem check_types' {x : Tab} (h : typesE x.types ≠ 0) : checkE x = typesE x.types := by unfold checkE; rw [if_pos h]
theorem check_trans' {x : Tab} (h : typesE x.types = 0) (h2 : transE x ≠ 0) : checkE x = transE x := by unfold checkE; rw [if_neg (fun q => q h), if_pos h2]
theorem check_foot' {x : Tab} (h : typesE x.types = 0) (h2 : transE x = 0) : checkE x = footE x := by unfold checkE; rw [if_neg (fun q => q h), if_neg (fun q => q h2)]
theorem enters_types : ∀ args w, (callFunc 55 args).run Tryz.prog w = .ok (.enter 55 args) w := enters_of Tryz.func55 (by kernel_rfl) rfl
theorem enters_trans : ∀ args w, (callFunc 56 args).run Tryz.prog w = .ok (.enter 56 args) w := enters_of Tryz.func56 (by kernel_rfl) rfl
theorem enters_footer : ∀ args w, (callFunc 57 args).run Tryz.prog w = .ok (.enter 57 args) w := enters_of Tryz.func57 (by kernel_rfl) rfl
set_option maxHeartbeats 4000000 in
set_option maxRecDepth 100000 in
theorem tcheck_any (x : Tab) (tv rv : Value) (f : ByteArray) (W : World) (h : TabV W tv rv f x) (hE : EnvAt W) :
 Calls Tryz.prog 21 #[.agg #[tv, rv, .string f]] W fun e w' => e = .returned (.int .i64 (checkE x)) ∧ Below W.heap.size W w' := by
 obtain ⟨ta, tc, htv, _, _⟩ := h.types.slice
 obtain ⟨ra, rc, hrv, _, _⟩ := h.trans.slice
 obtain ⟨n, hn⟩ : ∃ n, x.types.length = n := ⟨_, rfl⟩
 obtain ⟨N, hN⟩ : ∃ n, x.trans.length = n := ⟨_, rfl⟩
 rw [hn] at htv
 rw [hN] at hrv
 clear hn hN
 subst htv hrv
 have K0 := Lib.hid (((Kp.start W).alloc (.cells #[.slice ta n tc, .slice ra N rc, .string f] 25)).allocAt (W.heap.size + 1) (by simp) (.cells #[.slice ta n tc, .slice ra N rc, .string f] 105))
 have CT := Lib.hid (fun w h => types_any x (.slice ta n tc) (.slice ra N rc) f w h)
 have CR := Lib.hid (fun w h => trans_any x (.slice ta n tc) (.slice ra N rc) f w h)
 have HT := Lib.hid h
 have HE := Lib.hid hE
 have ht1 := enters_types
 have ht2 := enters_trans
 have ht3 := enters_footer
 have KF := Lib.hid (K0.out.allocAt (W.heap.size + 1 + 1) (by simp) (.cells #[.func (.func 55) #[.agg #[.slice ta n tc, .slice ra N rc, .string f]] #[], .func (.func 56) #[.agg #[.slice ta n tc, .slice ra N rc, .string f]] #[], .func (.func 57) #[.agg #[.slice ta n tc, .slice ra N rc, .string f]] #[]] 106))
 clear h hE
 by_cases h1 : typesE x.types = 0
 case neg =>
  rw [check_types' h1]
  obtain ⟨E, hE2⟩ : ∃ E, typesE x.types = E := ⟨_, rfl⟩
  rw [hE2] at CT h1 ⊢
  clear hE2 CR
  go_enter Tryz.func21, Tryz.ntmps21
  go_wp2_with fail
  refine wp_loop_rounds 4 ?_
  rw [rounds_succ]
  go_wp2_with fail
  refine (CT.out _ (HT.out.keep KF.out.below)).mono ?_
  rintro _ V1 ⟨rfl, hbv⟩
  have K1 := Lib.hid (KF.out.keep hbv)
  clear hbv
  go_wp2_with fail
  go_ret
  exact ⟨rfl, K1.out.below⟩
 by_cases h2 : transE x = 0
 case neg =>
  rw [check_trans' h1 h2]
  obtain ⟨E, hE2⟩ : ∃ E, transE x = E := ⟨_, rfl⟩
  rw [h1] at CT
  rw [hE2] at CR h2 ⊢
  clear hE2 h1
  go_enter Tryz.func21, Tryz.ntmps21
  go_wp2_with fail
  refine wp_loop_rounds 4 ?_
  rw [rounds_succ]
  go_wp2_with fail
  refine (CT.out _ (HT.out.keep KF.out.below)).mono ?_
  rintro _ V1 ⟨rfl, hbv⟩
  have K1 := Lib.hid (KF.out.keep hbv)
  clear hbv
  go_wp2_with fail
  rw [rounds_succ]
  obtain ⟨⟨m0, m1, m2⟩, _, _, _⟩ := row3 (K1.out.at 0 rfl)
  go_wp2_with fail
  refine (CR.out _ (HT.out.keep K1.out.below)).mono ?_
  rintro _ V2 ⟨rfl, hbv⟩
  have K2 := Lib.hid (K1.out.keep hbv)
  clear hbv m0 m1 m2
  go_wp2_with fail
  go_ret
  exact ⟨rfl, K2.out.below⟩
 rw [check_foot' h1 h2]
 have CF := Lib.hid (fun w h hE => footer_any x (.slice ta n tc) (.slice ra N rc) f w h hE h1 h2)
 rw [h1] at CT
 rw [h2] at CR
 obtain ⟨E, hE2⟩ : ∃ E, footE x = E := ⟨_, rfl⟩
 rw [hE2] at CF
 rw [hE2]
 clear h1 h2 hE2
 by_cases h3 : E = 0
 case neg =>
  go_enter Tryz.func21, Tryz.ntmps21
  go_wp2_with fail
  refine wp_loop_rounds 4 ?_
  rw [rounds_succ]
  go_wp2_with fail
  refine (CT.out _ (HT.out.keep KF.out.below)).mono ?_
  rintro _ V1 ⟨rfl, hbv⟩
  have K1 := Lib.hid (KF.out.keep hbv)
  clear hbv
  go_wp2_with fail
  rw [rounds_succ]
  obtain ⟨⟨m0, m1, m2⟩, _, _, _⟩ := row3 (K1.out.at 0 rfl)
  go_wp2_with fail
  refine (CR.out _ (HT.out.keep K1.out.below)).mono ?_
  rintro _ V2 ⟨rfl, hbv⟩
  have K2 := Lib.hid (K1.out.keep hbv)
  clear hbv m0 m1 m2
  go_wp2_with fail
  rw [rounds_succ]
  obtain ⟨⟨m0, m1, m2⟩, _, _, _⟩ := row3 (K2.out.at 0 rfl)
  go_wp2_with fail
  refine (CF.out _ (HT.out.keep K2.out.below) (HE.out.keep K2.out.below)).mono ?_
  rintro _ V3 ⟨rfl, hbv⟩
  have K3 := Lib.hid (K2.out.keep hbv)
  clear hbv m0 m1 m2
  go_wp2_with fail
  go_ret
  exact ⟨rfl, K3.out.below⟩
 subst h3
 go_enter Tryz.func21, Tryz.ntmps21
 go_wp2_with fail
 refine wp_loop_rounds 4 ?_
 rw [rounds_succ]
 go_wp2_with fail
 refine (CT.out _ (HT.out.keep KF.out.below)).mono ?_
 rintro _ V1 ⟨rfl, hbv⟩
 have K1 := Lib.hid (KF.out.keep hbv)
 clear hbv
 go_wp2_with fail
 rw [rounds_succ]
 obtain ⟨⟨m0, m1, m2⟩, _, _, _⟩ := row3 (K1.out.at 0 rfl)
 go_wp2_with fail
 refine (CR.out _ (HT.out.keep K1.out.below)).mono ?_
 rintro _ V2 ⟨rfl, hbv⟩
 have K2 := Lib.hid (K1.out.keep hbv)
 clear hbv m0 m1 m2
 go_wp2_with fail
 rw [rounds_succ]
 obtain ⟨⟨m0, m1, m2⟩, _, _, _⟩ := row3 (K2.out.at 0 rfl)
 go_wp2_with fail
 refine (CF.out _ (HT.out.keep K2.out.below) (HE.out.keep K2.out.below)).mono ?_
 rintro _ V3 ⟨rfl, hbv⟩
 have K3 := Lib.hid (K2.out.keep hbv)
 clear hbv m0 m1 m2
 go_wp2_with fail
 rw [rounds_succ]
 go_wp2_with fail
 go_ret
 exact ⟨rfl, K3.out.below⟩
end Go.Proofs.YtkpmmabdpeobaaaGreatDoor.Px
