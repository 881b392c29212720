/- The function tzif.Version: the version that a table needs. The function tzif.Encode, its parts: the abbreviations as a list of strings, appended one by one. The function tzif.Encode: the data of a table. -/
import Derived.Test.YtkpmmabdpeobaaaGreatDoorSV1
import Derived.Test.YtkpmmabdpeobaaaGreatDoorSU17
import Derived.Test.YtkpmmabdpeobaaaGreatDoorSU37
namespace Go.Proofs.YtkpmmabdpeobaaaGreatDoor.Px
open Go.RowKit
open Tz Tb Civ
theorem versE_bad {x : Tab} {E : Int} (h : checkE x = E) (hE : E ≠ 0) : versE x = (0, E) := by unfold versE; rw [if_neg (by rw [h]; exact hE), h]
theorem versE_ok {x : Tab} (h : checkE x = 0) : versE x = (versT x, 0) := by unfold versE; rw [if_pos h]
theorem versP_cases (p : Pos) : (p.dst.toList.isEmpty = true → versP p = 2) ∧ (¬ p.dst.toList.isEmpty = true → (p.start.sec < 0 ∨ 90000 ≤ p.start.sec → versP p = 3) ∧ (p.stop.sec < 0 ∨ 90000 ≤ p.stop.sec → versP p = 3) ∧ (¬ (p.start.sec < 0 ∨ 90000 ≤ p.start.sec) → ¬ (p.stop.sec < 0 ∨ 90000 ≤ p.stop.sec) → versP p = 2)) := by
 have hw : ∀ d : Dt, highQ d = true ↔ (d.sec < 0 ∨ 90000 ≤ d.sec) := fun d => by unfold highQ; simp
 unfold versP
 refine ⟨fun h => by rw [if_pos h], fun h => ?_⟩
 rw [if_neg h]
 refine ⟨fun h1 => by rw [if_pos (.inl ((hw _).2 h1))], fun h1 => by rw [if_pos (.inr ((hw _).2 h1))], fun h1 h2 => ?_⟩
 rw [if_neg]
 rintro (h | h)
 · exact h1 ((hw _).1 h)
 · exact h2 ((hw _).1 h)
set_option maxHeartbeats 4000000 in
set_option maxRecDepth 100000 in
theorem version_any (x : Tab) (tv rv : Value) (f : ByteArray) (W : World) (h : TabV W tv rv f x) (hE : EnvAt W) :
 Calls Tryz.prog 15 #[.agg #[tv, rv, .string f]] W fun e w' => e = .returned (.tuple #[.int .i64 (versE x).1, .int .i64 (versE x).2]) ∧ Below W.heap.size W w' := by
 obtain ⟨ta, tc, htv, _, _⟩ := h.types.slice
 obtain ⟨ra, rc, hrv, _, _⟩ := h.trans.slice
 have CC := Lib.hid (fun w h hE => tcheck_any x tv rv f w h hE)
 have CP := Lib.hid (fun w hE => parse_any x.foot w hE)
 obtain ⟨M, hM⟩ : ∃ n, x.types.length = n := ⟨_, rfl⟩
 obtain ⟨N, hN⟩ : ∃ n, x.trans.length = n := ⟨_, rfl⟩
 rw [hM] at htv
 rw [hN] at hrv
 subst htv hrv
 have K0 := Lib.hid ((Kp.start W).alloc (.cells #[.slice ta M tc, .slice ra N rc, .string f] 25))
 have HT := Lib.hid h
 have HE := Lib.hid hE
 have HFt := Lib.hid h.foot
 by_cases h1 : checkE x = 0
 case neg =>
  rw [versE_bad rfl h1]
  obtain ⟨E, hE2⟩ : ∃ E, checkE x = E := ⟨_, rfl⟩
  rw [hE2] at CC h1 ⊢
  dsimp only
  clear hE2 h hM hN hE
  go_enter Tryz.func15, Tryz.ntmps15
  go_wp2_with fail
  refine (CC.out _ (HT.out.keep K0.out.below) (HE.out.keep K0.out.below)).mono ?_
  rintro _ V ⟨rfl, hb⟩
  have K1 := Lib.hid (K0.out.keep hb)
  clear hb
  go_wp2_with fail
  go_ret2
  exact ⟨rfl, K1.out.below⟩
 rw [versE_ok h1]
 have hf0 : (finG prF x.foot).2 = 0 := by rw [fin_two]; exact (right_foot h1).1
 unfold versT
 rw [h1] at CC
 rw [hf0] at CP
 obtain ⟨p, hp⟩ : ∃ p, (finG prF x.foot).1 = p := ⟨_, rfl⟩
 rw [hp] at CP ⊢
 obtain ⟨s0, o0, s1, o1, ⟨k1, d1, m1, w1, c1⟩, ⟨k2, d2, m2, w2, c2⟩⟩ := p
 rw [show f = bs x.foot from h.foot] at K0 HT CC ⊢
 obtain ⟨S, hS⟩ : ∃ s, bs x.foot = s := ⟨_, rfl⟩
 rw [hS] at K0 HT CC CP ⊢
 unfold Pos.val at CP
 dsimp only at CP
 clear h hE hM hN h1 hf0 hp hS HFt
 obtain ⟨E, hEv⟩ : ∃ E, versP ⟨s0, o0, s1, o1, ⟨k1, d1, m1, w1, c1⟩, ⟨k2, d2, m2, w2, c2⟩⟩ = E := ⟨_, rfl⟩
 rw [hEv]
 have HV := Lib.hid (versP_cases ⟨s0, o0, s1, o1, ⟨k1, d1, m1, w1, c1⟩, ⟨k2, d2, m2, w2, c2⟩⟩)
 rw [hEv] at HV
 clear hEv
 go_enter Tryz.func15, Tryz.ntmps15
 go_wp2_with fail
 refine (CC.out _ (HT.out.keep K0.out.below) (HE.out.keep K0.out.below)).mono ?_
 rintro _ V ⟨rfl, hb⟩
 have K1 := Lib.hid (K0.out.keep hb)
 clear hb
 obtain ⟨⟨x0, x1, x2⟩, _, _, _⟩ := row3 (K1.out.at 0 rfl)
 go_wp2_with fail
 refine (CP.out _ (HE.out.keep K1.out.below)).mono ?_
 rintro _ V2 ⟨rfl, hb⟩
 have K2 := Lib.hid (K1.out.keep hb)
 clear hb x0 x1 x2
 go_upto_region 7 with fail
 have K3 := K2.out.alloc (.cells #[.string s0, .int .i64 o0, .string s1, .int .i64 o1, .int .i64 k1, .int .i64 d1, .int .i64 m1, .int .i64 w1, .int .i64 c1, .int .i64 k2, .int .i64 d2, .int .i64 m2, .int .i64 w2, .int .i64 c2] 50)
 obtain ⟨X, hX⟩ : ∃ Z, V2.alloc (.cells #[.string s0, .int .i64 o0, .string s1, .int .i64 o1, .int .i64 k1, .int .i64 d1, .int .i64 m1, .int .i64 w1, .int .i64 c1, .int .i64 k2, .int .i64 d2, .int .i64 m2, .int .i64 w2, .int .i64 c2] 50) = Z := ⟨_, rfl⟩
 obtain ⟨q, hq⟩ : ∃ Z, V2.heap.size = Z := ⟨_, rfl⟩
 rw [hX, hq] at K3 ⊢
 have K3 := Lib.hid K3
 clear hX hq K0 K1 K2 CC CP HT HE
 obtain ⟨y0, y1, y2, y3, y4, y5, y6, y7, y8, y9, y10, y11, y12, y13⟩ := row14 (K3.out.at 0 rfl)
 by_cases h2 : s1.toList.isEmpty = true
 · have HE2 := Lib.hid (HV.out.1 h2)
   go_wp2_with fail
   go_ret2
   exact ⟨by rw [← HE2.out]; rfl, K3.out.below⟩
 · have HE2 := Lib.hid (HV.out.2 h2)
   have h2' : s1.toList.isEmpty = false := by cases h : s1.toList.isEmpty <;> simp_all
   clear h2 HV
   have i0 : ∀ w, (Instr.index 72 (.agg #[.int .i64 k1, .int .i64 d1, .int .i64 m1, .int .i64 w1, .int .i64 c1, .int .i64 k2, .int .i64 d2, .int .i64 m2, .int .i64 w2, .int .i64 c2]) (.int .i64 0)).run Tryz.prog w = .ok (.agg #[.int .i64 k1, .int .i64 d1, .int .i64 m1, .int .i64 w1, .int .i64 c1]) w := fun _ => by kernel_rfl
   have i1 : ∀ w, (Instr.index 72 (.agg #[.int .i64 k1, .int .i64 d1, .int .i64 m1, .int .i64 w1, .int .i64 c1, .int .i64 k2, .int .i64 d2, .int .i64 m2, .int .i64 w2, .int .i64 c2]) (.int .i64 1)).run Tryz.prog w = .ok (.agg #[.int .i64 k2, .int .i64 d2, .int .i64 m2, .int .i64 w2, .int .i64 c2]) w := fun _ => by kernel_rfl
   go_upto_region 9 with fail
   go_wp2_with fail
   refine wp_loop_rounds 3 ?_
   rw [rounds_succ]
   go_upto_region 12 with fail
   have KK1 := K3.out.alloc (.cells #[.int .i64 k1, .int .i64 d1, .int .i64 m1, .int .i64 w1, .int .i64 c1] 48)
   obtain ⟨z0, z1, z2, z3, z4⟩ := row5 (KK1.at 0 rfl)
   have KK1 := Lib.hid KK1
   by_cases a1 : c1 < 0
   · have HE3 := Lib.hid (HE2.out.1 (.inl a1))
     go_wp2_with fail
     go_ret2
     exact ⟨by rw [← HE3.out]; rfl, KK1.out.below⟩
   by_cases b1 : 90000 ≤ c1
   · have HE3 := Lib.hid (HE2.out.1 (.inr b1))
     go_wp2_with fail
     go_ret2
     exact ⟨by rw [← HE3.out]; rfl, KK1.out.below⟩
   go_upto_region 14 with fail
   go_wp2_with fail
   rw [rounds_succ]
   clear z0 z1 z2 z3 z4
   go_upto_region 12 with fail
   have KK2 := KK1.out.alloc (.cells #[.int .i64 k2, .int .i64 d2, .int .i64 m2, .int .i64 w2, .int .i64 c2] 48)
   obtain ⟨z0, z1, z2, z3, z4⟩ := row5 (KK2.at 0 rfl)
   have KK2 := Lib.hid KK2
   by_cases a2 : c2 < 0
   · have HE3 := Lib.hid (HE2.out.2.1 (.inl a2))
     go_wp2_with fail
     go_ret2
     exact ⟨by rw [← HE3.out]; rfl, KK2.out.below⟩
   by_cases b2 : 90000 ≤ c2
   · have HE3 := Lib.hid (HE2.out.2.1 (.inr b2))
     go_wp2_with fail
     go_ret2
     exact ⟨by rw [← HE3.out]; rfl, KK2.out.below⟩
   have HE3 := Lib.hid (HE2.out.2.2 (by omega) (by omega))
   go_upto_region 14 with fail
   go_wp2_with fail
   rw [rounds_succ]
   go_wp2_with fail
   go_ret2
   exact ⟨by rw [← HE3.out]; rfl, KK2.out.below⟩
end Go.Proofs.YtkpmmabdpeobaaaGreatDoor.Px
namespace Go.Proofs.YtkpmmabdpeobaaaGreatDoor.Px
open Go.RowKit
open Tz Tb Civ
theorem infoStr42 : (Tryz.prog.info? 9).map (fun i => (i.zero, i.size, i.bytes)) = some (some (.string ⟨#[]⟩), 1, 16) := by kernel_rfl
def sRow (v : Value) (l : List B) : Rw := ⟨v, 9, 1, l.length, l.map sv⟩
theorem sRow_slice {X : World} {b : Nat} {v : Value} {l : List B} (h : X.ownsRow b (sRow v l).e (sRow v l).sz (sRow v l).v (sRow v l).n (sRow v l).xs) : ∃ a c, v = .slice a l.length c := own_slice h
theorem append_name {L : List (Nat × Obj)} {R : List Rw} {v : Value} {l : List B} {W X : World} (h : Kp L (sRow v l :: R) W X) (s : ByteArray) (hmax : l.length + 1 ≤ 1000000) :
 ∃ v' w1, (Builtin.append_ #[74, 74] 74 #[v, .slice (some ⟨X.heap.size, 0, none⟩) 1 1]).run Tryz.prog (X.alloc (.cells #[.string s] 9)) = .ok v' w1 ∧ Kp L (sRow v' (l ++ [s.data.toList]) :: R) W w1 := by
 obtain ⟨i0, hi, hz0, hz1, hz2⟩ := info_parts infoStr42
 have hk := h.alloc (.cells #[.string s] 9)
 have hb : SlV (X.alloc (.cells #[.string s] 9)) (.slice (some ⟨X.heap.size, 0, none⟩) 1 1) 1 1 [.string s] := SlV.of_block (hk.at 0 rfl) (by omega) (by unfold maxLen; omega) (by simp)
 obtain ⟨v', w1, hr, hk'⟩ := append_flat Tryz.underlying74 hi hz0 hz1 hz2 rfl (by decide) (by omega) hk 1 [.string s] _ hb (fun u hu => by rw [List.mem_singleton.1 hu]; rfl) (fun c e => by cases e) hmax
 refine ⟨v', w1, hr, ?_⟩
 have e : (⟨v', 9, 1, l.length + 1, l.map sv ++ [.string s]⟩ : Rw) = sRow v' (l ++ [s.data.toList]) := by
  unfold sRow
  rw [List.map_append, List.length_append]
  rfl
 rw [← e]
 exact hk'.drop
theorem step_append_run {P : Program} {ops : Array Oper} {o : Oper} {a : Act} {w : World} {K : Act → World → Prop} {Q : Exit → Act → World → Prop} {E : Prop} (hg : o.guard = none) (s x : Operand) (t u : TypeId)
 (ho : o.op = .call { callee := .builtin .append, args := #[s, x], argTypes := #[t, u] }) (vs vx v' : Value) (w' : World) (hs : a.eval s = vs) (hx : a.eval x = vx) (hr : (Builtin.append_ #[t, u] o.type #[vs, vx]).run P w = .ok v' w') (hK : K (a.put o.dst v') w') :
 if Region.wanted o (yielded ops a.tmps) = true then Oper.wp P o a w K Q else E := by
 have hw : Region.wanted o (yielded ops a.tmps) = true := by simp [Region.wanted, hg]
 rw [if_pos hw]
 unfold Oper.wp execOp
 simp only [ho, resolve, invoke, builtin, Sem.run_bind, Sem.run_pure, Result.andThen_ok, List.map_toArray, List.map_cons, List.map_nil, hs, hx, hr]
 exact hK
end Go.Proofs.YtkpmmabdpeobaaaGreatDoor.Px
namespace Go.Proofs.YtkpmmabdpeobaaaGreatDoor.Px
open Go.RowKit
open Tz Tb Civ
theorem encE_bad {x : Tab} {E : Int} (v : Int) (h : checkE x = E) (hE : E ≠ 0) : encE x v = ([], E) := by unfold encE; rw [if_neg (by rw [h]; exact hE), h]
theorem encE_vers {x : Tab} {v : Int} (h : checkE x = 0) (hv : v < versT x ∨ 4 < v) : encE x v = ([], 18) := by unfold encE; rw [if_pos h, if_pos hv]
theorem encE_ok {x : Tab} {v : Int} (h : checkE x = 0) (hv : ¬ (v < versT x ∨ 4 < v)) : encE x v = (encB x v, 0) := by unfold encE; rw [if_pos h, if_neg hv]
set_option maxHeartbeats 4000000 in
set_option maxRecDepth 100000 in
theorem encode_err (x : Tab) (tv rv : Value) (f : ByteArray) (v : Int) (W : World) (h : TabV W tv rv f x) (hE : EnvAt W) (hne : (encE x v).2 ≠ 0) :
 Calls Tryz.prog 17 #[.agg #[tv, rv, .string f], .int .i64 v] W fun e w' => ∃ ov, e = .returned (.tuple #[ov, .int .i64 (encE x v).2]) ∧ Kp [] [bRow ov (encE x v).1] W w' := by
 have CV := Lib.hid (fun w h hE => version_any x tv rv f w h hE)
 obtain ⟨ta, tc, htv, _, _⟩ := h.types.slice
 obtain ⟨ra, rc, hrv, _, _⟩ := h.trans.slice
 obtain ⟨M, hM⟩ : ∃ n, x.types.length = n := ⟨_, rfl⟩
 obtain ⟨N, hN⟩ : ∃ n, x.trans.length = n := ⟨_, rfl⟩
 rw [hM] at htv
 rw [hN] at hrv
 subst htv hrv
 have K0 := Lib.hid ((Kp.start W).alloc (.cells #[.slice ta M tc, .slice ra N rc, .string f] 25))
 have HT := Lib.hid h
 have HE := Lib.hid hE
 by_cases h1 : checkE x = 0
 · have hv : v < versT x ∨ 4 < v := by
     apply Classical.byContradiction
     intro hv
     rw [encE_ok h1 hv] at hne
     exact hne rfl
   rw [encE_vers h1 hv]
   rw [versE_ok h1] at CV
   obtain ⟨E, hE2⟩ : ∃ E, versT x = E := ⟨_, rfl⟩
   rw [hE2] at CV hv
   dsimp only at CV ⊢
   clear hE2 h hM hN hE hne h1
   go_enter Tryz.func17, Tryz.ntmps17
   go_wp2_with fail
   refine (CV.out _ (HT.out.keep K0.out.below) (HE.out.keep K0.out.below)).mono ?_
   rintro _ V ⟨rfl, hb⟩
   have K1 := Lib.hid (K0.out.keep hb)
   clear hb
   by_cases h2 : v < E
   · go_wp2_with fail
     refine bodyPost_ret (v := .tuple #[.slice none 0 0, .int .i64 18]) (by simp [results, Tryz.results17, go_sem]) rfl ⟨_, rfl, (K1.out.drop).fresh 5 1⟩
   · have h3 : 4 < v := by omega
     go_wp2_with fail
     refine bodyPost_ret (v := .tuple #[.slice none 0 0, .int .i64 18]) (by simp [results, Tryz.results17, go_sem]) rfl ⟨_, rfl, (K1.out.drop).fresh 5 1⟩
 · obtain ⟨E, hE2⟩ : ∃ E, checkE x = E := ⟨_, rfl⟩
   rw [hE2] at h1
   rw [encE_bad v hE2 h1]
   rw [versE_bad hE2 h1] at CV
   dsimp only at CV ⊢
   clear hE2 h hM hN hE hne
   go_enter Tryz.func17, Tryz.ntmps17
   go_wp2_with fail
   refine (CV.out _ (HT.out.keep K0.out.below) (HE.out.keep K0.out.below)).mono ?_
   rintro _ V ⟨rfl, hb⟩
   have K1 := Lib.hid (K0.out.keep hb)
   clear hb
   go_wp2_with fail
   refine bodyPost_ret (v := .tuple #[.slice none 0 0, .int .i64 E]) (by simp [results, Tryz.results17, go_sem]) rfl ⟨_, rfl, (K1.out.drop).fresh 5 1⟩
end Go.Proofs.YtkpmmabdpeobaaaGreatDoor.Px
