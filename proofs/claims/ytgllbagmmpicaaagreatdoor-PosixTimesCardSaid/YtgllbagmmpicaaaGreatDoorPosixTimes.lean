/- The law PosixTimes returns true for every TZ and every instant, and its tied card holds; no condition beyond the row itself. -/
import Derived.Test.YtgllbagmmpicaaaGreatDoorPwX
import Derived.Test.YtgllbagmmpicaaaGreatDoorPwL
import Derived.Test.YtgllbagmmpicaaaGreatDoorPwO
import Derived.Test.YtgllbagmmpicaaaGreatDoorPxQ
import Derived.Test.YtgllbagmmpicaaaGreatDoorPxW
namespace Go.Proofs.YtgllbagmmpicaaaGreatDoor.Px
open Go.RowKit
open Civ

theorem atP_loc (p : Pos) (t : Int) : ∃ o q n er, atP p t = (Loc o q n, er) := by
  unfold atP
  split
  · exact ⟨_, _, _, _, rfl⟩
  · split
    · exact ⟨_, _, _, _, rfl⟩
    · split
      · exact ⟨_, _, _, _, rfl⟩
      · unfold locOf
        cases (lastP p t).2
        · exact ⟨p.stdOff, false, p.std, 0, rfl⟩
        · exact ⟨p.dstOff, true, p.dst, 0, rfl⟩
set_option maxHeartbeats 4000000 in
set_option maxRecDepth 100000 in
theorem posixTimes_cells (a c : ByteArray) (b d k1 d1 m1 w1 s1 k2 d2 m2 w2 s2 : Int) (t : Int) (ha : a.size ≤ 9223372036854775807) (hc : c.size ≤ 9223372036854775807) (W : World) (hE : EnvAt W) :
    Calls Tryz.prog 4 #[.agg #[.string a, .int .i64 b, .string c, .int .i64 d, .int .i64 k1, .int .i64 d1, .int .i64 m1, .int .i64 w1, .int .i64 s1, .int .i64 k2, .int .i64 d2, .int .i64 m2, .int .i64 w2, .int .i64 s2], .int .i64 t] W fun e w' => e = .returned (.bool true) ∧ Below W.heap.size W w' := by
  have HE := Lib.hid hE
  have HA := Lib.hid ((Below.refl _ W).alloc (Nat.le_refl _) (.cells #[.string a, .int .i64 b, .string c, .int .i64 d, .int .i64 k1, .int .i64 d1, .int .i64 m1, .int .i64 w1, .int .i64 s1, .int .i64 k2, .int .i64 d2, .int .i64 m2, .int .i64 w2, .int .i64 s2] 25))
  have HR := Lib.hid (rowAt_alloc W #[.string a, .int .i64 b, .string c, .int .i64 d, .int .i64 k1, .int .i64 d1, .int .i64 m1, .int .i64 w1, .int .i64 s1, .int .i64 k2, .int .i64 d2, .int .i64 m2, .int .i64 w2, .int .i64 s2] 25)
  clear hE
  by_cases hbig : 50 < a.size ∨ 50 < c.size
  · have hb2 : decide ((50 : Int) < (a.size : Int)) = true ∨ (decide ((50 : Int) < (a.size : Int)) = false ∧ decide ((50 : Int) < (c.size : Int)) = true) := by
      by_cases h : 50 < a.size
      · left; exact decide_eq_true (by omega)
      · right; exact ⟨decide_eq_false (by omega), decide_eq_true (by omega)⟩
    clear hbig
    rcases hb2 with h1 | ⟨h1, h2⟩
    all_goals
      go_enter Tryz.func4, Tryz.ntmps4
      go_wp2_with fail
      refine (works_any _ (HE.out.keep HA.out)).mono ?_
      rintro _ V ⟨rfl, hb⟩
      have HB := Lib.hid (HA.out.trans (hb.mono HA.out.size))
      clear hb
      go_wp2_with fail
      go_ret
      exact ⟨rfl, HB.out⟩
  · have h1 : (a.size : Int) ≤ 50 := by omega
    have h2 : (c.size : Int) ≤ 50 := by omega
    have CA := Lib.hid (fun w hB hK => at_any ⟨a, b, c, d, ⟨k1, d1, m1, w1, s1⟩, ⟨k2, d2, m2, w2, s2⟩⟩ t (by dsimp only; omega) (by dsimp only; omega) w hB hK)
    have CB := Lib.hid (fun w => ref_at_any ⟨a, b, c, d, ⟨k1, d1, m1, w1, s1⟩, ⟨k2, d2, m2, w2, s2⟩⟩ t (by dsimp only; omega) (by dsimp only; omega) w)
    have hv := atP_loc ⟨a, b, c, d, ⟨k1, d1, m1, w1, s1⟩, ⟨k2, d2, m2, w2, s2⟩⟩ t
    obtain ⟨o, q, n, er, hv⟩ := hv
    rw [hv] at CA CB
    unfold Pos.val at CA CB
    unfold Loc at CA CB
    dsimp only at CA CB
    clear hbig hv
    go_enter Tryz.func4, Tryz.ntmps4
    go_wp2_with fail
    refine (CA.out _ (HE.out.keep HA.out).before (HE.out.keep HA.out).kinds).mono ?_
    rintro _ V ⟨rfl, hb⟩
    have HB := Lib.hid (HA.out.trans (hb.mono HA.out.size))
    have HRV := Lib.hid (HR.out.keep hb)
    obtain ⟨c0, c1, c2, c3, c4, c5, c6, c7, c8, c9, c10, c11, c12, c13⟩ := (HR.out.keep hb).pos
    have hz : W.heap.size < V.heap.size := (HR.out.keep hb).1
    have HB1 := Lib.hid (HB.out.alloc HB.out.size (.cells #[.int .i64 o, .bool q, .string n] 35))
    clear hb
    go_wp2_with fail
    refine (CB.out _).mono ?_
    rintro _ V2 ⟨rfl, hb⟩
    have HB2 := Lib.hid (HB1.out.trans (hb.mono HB1.out.size))
    have HL := heap_keep (heap_new V (.cells #[.int .i64 o, .bool q, .string n] 35 (0, 0))) hb
    have hz2 : V.heap.size < V2.heap.size := lt_of_block HL
    obtain ⟨⟨e0, e1, e2⟩, f0, f1, f2⟩ := row3 HL
    have HB3 := Lib.hid (HB2.out.alloc HB2.out.size (.cells #[.int .i64 o, .bool q, .string n] 35))
    clear hb HL c0 c1 c2 c3 c4 c5 c6 c7 c8 c9 c10 c11 c12 c13
    go_wp2_with fail
    refine (works_any _ (HE.out.keep HB3.out)).mono ?_
    rintro _ V3 ⟨rfl, hb⟩
    have HB4 := Lib.hid (HB3.out.trans (hb.mono HB3.out.size))
    clear hb
    go_wp2_with fail
    go_ret
    exact ⟨rfl, HB4.out⟩
theorem posixTimes_walk (p : Pos) (ha : p.std.size ≤ maxLen) (hc : p.dst.size ≤ maxLen) (t : Int) (_ : (Lit.int IntKind.i64 t).wf = true) (W : World) (hE : EnvAt W) :
    Calls Tryz.prog 4 #[p.val, .int .i64 t] W fun e w' => e = .returned (.bool true) ∧ Below W.heap.size W w' := by
  obtain ⟨a, b, c, d, ⟨k1, d1, m1, w1, s1⟩, ⟨k2, d2, m2, w2, s2⟩⟩ := p
  exact posixTimes_cells a c b d k1 d1 m1 w1 s1 k2 d2 m2 w2 s2 t (by unfold maxLen at ha; exact ha) (by unfold maxLen at hc; exact hc) W hE
end Go.Proofs.YtgllbagmmpicaaaGreatDoor.Px
namespace Go.Proofs.YtgllbagmmpicaaaGreatDoor
open Go.ChangeShapes Go.WideShapes Go.ChangeAt Go.RowKit
open Go.ChangeMaps (open_string)

namespace posixTimes
theorem own : ownKnob Tryz.prog.godebug = none := by kernel_rfl
set_option maxRecDepth 100000 in
theorem lifted (os : Os) (started : os.Started) (H : Type) (enc : TypeId × Value → H) :
    ReturnsInHanded {} Tryz.checked os 4 .any (fun w args => (Rows.posixTimesSpec.pre enc Tryz.prog Tryz.f4 Rows.posixTimesRow.domain false w args ∧ laidMetH Tryz.prog Rows.posixTimesRow.laid w) ∧ sizedMet enc Tryz.prog Tryz.f4 (OpenSpec.ofChange Rows.posixTimesSpec) false w args)
      (Rows.posixTimesSpec.post enc Tryz.prog Tryz.f4 false true false false) := by
  refine returnsInHanded_of_change_and (C := Tryz.checked) (X := fun w _ => laidMetH Tryz.prog Rows.posixTimesRow.laid w) (fun _ _ _ hh h => h.of_heap hh) own started (by kernel_rfl) Tryz.func4
    (ChangeSpec.witness_shaped (enc := enc) (C := Tryz.checked) (os := os) (X := fun w _ => laidMetH Tryz.prog Rows.posixTimesRow.laid w) false ((World.doorLaid Tryz.prog 4000 os).layVars Tryz.prog [("unicode/utf8.first", Rows.laid_unicode_utf8_first)]) #[.agg #[.string ByteArray.empty, .int .i64 0, .string ByteArray.empty, .int .i64 0, .int .i64 0, .int .i64 0, .int .i64 0, .int .i64 0, .int .i64 0, .int .i64 0, .int .i64 0, .int .i64 0, .int .i64 0, .int .i64 0], .int .i64 0] 8 (door_os os)
      (World.shaped_of_ZipB (by kernel_rfl) (by kernel_rfl)) (by kernel_rfl) (by kernel_rfl) (by kernel_rfl) (door_met os _)) ?_
  intro W base args ds gs before hval0 hW _ _ hL _
  have hval : ∀ (j : Nat) t v, Tryz.f4.params[j]? = some t → args[j]? = some v → Value.okWide Tryz.prog W .any base t v := hval0
  have hEnv : Px.EnvAt W := Px.env_of hL
  have hW' := hW
  obtain ⟨p, q, hA0, hV, rfl, _, _⟩ := hW
  have hA : DataW.TrodAll enc Tryz.prog W 0 (fun _ => true) true Tryz.f4.params.toList args.toList ds p := hA0
  rw [Tryz.params4] at hA hval
  obtain ⟨v0, vs0, d0, ds0, p0, q0, hargs, rfl, rfl, h0, r0⟩ := trodAll_cons hA
  obtain ⟨v1, vs1, d1, ds1, p1, q1, rfl, rfl, rfl, h1, r1⟩ := trodAll_cons r0
  obtain ⟨rfl, rfl, rfl⟩ := trodAll_nil r1
  obtain rfl : args = #[v0, v1] := by cases args; simp_all
  obtain ⟨rfl, rfl⟩ := trodVars_none hV
  obtain ⟨t0, rfl, hz0, hy0⟩ := Px.open_pos (hval 0 25 v0 rfl rfl) h0
  obtain ⟨n1, rfl, rfl, rfl, hn1⟩ := open_int Tryz.underlying2 (hval 1 2 v1 rfl rfl) h1
  refine (Px.posixTimes_walk t0 hz0 hy0 n1 hn1 W hEnv).mono fun e W' ⟨he, hB⟩ => ?_
  subst he
  refine ⟨_, rfl, post_law (by kernel_rfl) ?_ rfl hW' rfl rfl Tryz.underlying4 hB⟩
  rw [Tryz.params4]
  intro t ht
  have hall : ([25, 2].all fun u => Tryz.prog.readableRec u && decide (u < Tryz.prog.types.size)) = true := by kernel_rfl
  have h1 := List.all_eq_true.1 hall t ht
  have h2 : Tryz.prog.readableRec t = true ∧ t < Tryz.prog.types.size := by simpa using h1
  exact h2
theorem said : Rows.PosixTimesSaid :=
  OpenClaim.holds_of_wide 4 Tryz.f4 rfl rfl rfl rfl rfl rfl rfl ⟨rfl, rfl, rfl, rfl, rfl⟩ rfl rfl rfl rfl rfl (by kernel_rfl) Tryz.func4 (by kernel_rfl)
    (of_decide_eq_true (by kernel_rfl)) (by unfold Func.isWrapper; first | (rw [if_pos (by decide +kernel)]; kernel_rfl) | (rw [if_neg (by decide +kernel)]; exact ⟨rfl, rfl⟩))
    (fun os started H enc _ => lifted os started H enc)
theorem plain (f : FuncId) (fn : Func) (hf : Tryz.pinned.checked.prog.funcNamed "analemma/analemmalaw37.PosixTimes" = some f) (hfn : Tryz.pinned.checked.prog.funcs[f]? = some fn) :
    true = Tryz.pinned.checked.prog.looks [] ∧ ∀ (j : Nat) t, fn.params[j]? = some t → Tryz.pinned.checked.prog.wantsStandIn t = false := by
  obtain rfl : f = 4 := Option.some.inj ((show Tryz.prog.funcNamed "analemma/analemmalaw37.PosixTimes" = some 4 by kernel_rfl).symm.trans hf) |>.symm
  obtain rfl : fn = Tryz.f4 := (Option.some.inj (Tryz.func4.symm.trans hfn)).symm
  refine ⟨by kernel_rfl, fun j t ht => ?_⟩
  rw [Tryz.params4] at ht
  have hm : t ∈ [25, 2] := by simpa using Array.mem_of_getElem? ht
  have hall : ([25, 2].all fun u => !Tryz.prog.wantsStandIn u) = true := by kernel_rfl
  exact (show Tryz.prog.wantsStandIn t = false by simpa using List.all_eq_true.1 hall t hm)
theorem card : Rows.PosixTimesCardSaid :=
  Claim7.holds_tied_plain_at .later [] _ _ _ _ said (fun _ h => by cases h) (by kernel_rfl) (fun _ h => by cases h) posixTimes_row_tie rfl ⟨rfl, rfl⟩ (by kernel_rfl) rfl plain (by kernel_rfl)
end posixTimes
#print axioms posixTimes.card
end Go.Proofs.YtgllbagmmpicaaaGreatDoor
