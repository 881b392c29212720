/- The law TableChecks: the walk. The law TableChecks returns true for every two tables, and its tied card holds; no condition beyond the row itself. -/
import Derived.Test.YtlaplgaccjmbhaaGreatDoorSG26
import Derived.Test.YtlaplgaccjmbhaaGreatDoorSG23
import Derived.Test.YtlaplgaccjmbhaaGreatDoorSG28
import Derived.Test.YtlaplgaccjmbhaaGreatDoorSG13
import Derived.Test.YtlaplgaccjmbhaaGreatDoorSG14
namespace Go.Proofs.YtlaplgaccjmbhaaGreatDoor.Px
open Go.RowKit
open Civ Tb
set_option maxHeartbeats 16000000 in
set_option maxRecDepth 100000 in
theorem tableChecks_cells (x y : Tab) (tv rv tv' rv' : Value) (f f' : ByteArray) (W : World) (h : TabV W tv rv f x) (h' : TabV W tv' rv' f' y) (hE : EnvAt W) (hf : f.size ≤ maxLen) (hf' : f'.size ≤ maxLen) :
    Calls Tryz.prog 8 #[.agg #[tv, rv, .string f], .agg #[tv', rv', .string f']] W fun e w' => e = .returned (.bool true) ∧ Below W.heap.size W w' := by
  obtain ⟨ta, tc, htv, t1, t2⟩ := h.types.slice
  obtain ⟨ra, rc, hrv, r1, r2⟩ := h.trans.slice
  obtain ⟨ta', tc', htv', t1', t2'⟩ := h'.types.slice
  obtain ⟨ra', rc', hrv', r1', r2'⟩ := h'.trans.slice
  obtain ⟨M, hM⟩ : ∃ n, x.types.length = n := ⟨_, rfl⟩
  obtain ⟨N, hN⟩ : ∃ n, x.trans.length = n := ⟨_, rfl⟩
  obtain ⟨M', hM'⟩ : ∃ n, y.types.length = n := ⟨_, rfl⟩
  obtain ⟨N', hN'⟩ : ∃ n, y.trans.length = n := ⟨_, rfl⟩
  rw [hM] at htv
  rw [hN] at hrv
  rw [hM'] at htv'
  rw [hN'] at hrv'
  subst htv hrv htv' hrv'
  have HT := Lib.hid h
  have HT' := Lib.hid h'
  have HE := Lib.hid hE
  have CW := Lib.hid (fun w hE => works40_any w hE)
  have CF := Lib.hid (fun w h => few_any x (.slice ta M tc) (.slice ra N rc) f w h hf)
  have CF' := Lib.hid (fun w h => few_any y (.slice ta' M' tc') (.slice ra' N' rc') f' w h hf')
  have K0 := Lib.hid (((Kp.start W).alloc (.cells #[.slice ta M tc, .slice ra N rc, .string f] 25)).allocAt (W.heap.size + 1) (by simp) (.cells #[.slice ta' M' tc', .slice ra' N' rc', .string f'] 25))
  have hx80 : fewB x f.size = true → x.trans.length ≤ 80 := fun q => by unfold fewB at q; simp only [Bool.and_eq_true, decide_eq_true_eq] at q; exact q.1.2
  have hy80 : fewB y f'.size = true → y.trans.length ≤ 80 := fun q => by unfold fewB at q; simp only [Bool.and_eq_true, decide_eq_true_eq] at q; exact q.1.2
  have HX80 := Lib.hid hx80
  have HY80 := Lib.hid hy80
  obtain ⟨bx, hbx⟩ : ∃ b, fewB x f.size = b := ⟨_, rfl⟩
  obtain ⟨bY, hby⟩ : ∃ b, fewB y f'.size = b := ⟨_, rfl⟩
  rw [hbx] at CF HX80
  rw [hby] at CF' HY80
  clear h h' hE hf hf' t1 t2 r1 r2 t1' t2' r1' r2' hM hN hM' hN' hbx hby hx80 hy80
  cases bx
  · go_enter Tryz.func8, Tryz.ntmps8
    go_wp2_with fail
    refine (CF.out _ (HT.out.keep K0.out.below)).mono ?_
    rintro _ V ⟨rfl, hb⟩
    have K1 := Lib.hid (K0.out.keep hb)
    clear hb
    go_wp2_with fail
    refine (CW.out _ (HE.out.keep K1.out.below)).mono ?_
    rintro _ V2 ⟨rfl, hb⟩
    have K2 := Lib.hid (K1.out.keep hb)
    clear hb
    go_wp2_with fail
    go_ret
    exact ⟨rfl, K2.out.below⟩
  cases bY
  · go_enter Tryz.func8, Tryz.ntmps8
    go_wp2_with fail
    refine (CF.out _ (HT.out.keep K0.out.below)).mono ?_
    rintro _ V ⟨rfl, hb⟩
    have K1 := Lib.hid (K0.out.keep hb)
    obtain ⟨⟨x0, x1, x2⟩, _, _, _⟩ := row3 (K1.out.at 0 rfl)
    clear hb
    go_wp2_with fail
    refine (CF'.out _ (HT'.out.keep K1.out.below)).mono ?_
    rintro _ V1 ⟨rfl, hb⟩
    have K1' := Lib.hid (K1.out.keep hb)
    clear hb x0 x1 x2
    go_wp2_with fail
    refine (CW.out _ (HE.out.keep K1'.out.below)).mono ?_
    rintro _ V2 ⟨rfl, hb⟩
    have K2 := Lib.hid (K1'.out.keep hb)
    clear hb
    go_wp2_with fail
    go_ret
    exact ⟨rfl, K2.out.below⟩
  have CT := Lib.hid (fun (z : Tab) (tv rv : Value) (g : ByteArray) (hz : z.trans.length ≤ 80) w h hE => ttext_any z tv rv g w h hE (by omega))
  have CR := Lib.hid (fun (z : Tab) (tv rv : Value) (g : ByteArray) (hz : z.trans.length ≤ 80) w h => rttext_any z tv rv g w h (by omega))
  have CC := Lib.hid (fun (z : Tab) (tv rv : Value) (g : ByteArray) w h hE => tcheck_any z tv rv g w h hE)
  have CD := Lib.hid (fun (z : Tab) (tv rv : Value) (g : ByteArray) w h => rcheck_any z tv rv g w h)
  have CS := Lib.hid (fun (z : Tab) (tv rv : Value) (g : ByteArray) w h => same_any z z tv rv tv rv g g w h h)
  have CZ := Lib.hid (fun w h h' => same_any x y (.slice ta M tc) (.slice ra N rc) (.slice ta' M' tc') (.slice ra' N' rc') f f' w h h')
  have CY := Lib.hid (fun w h h' => rsame_any x y (.slice ta M tc) (.slice ra N rc) (.slice ta' M' tc') (.slice ra' N' rc') f f' w h h')
  obtain ⟨sb, hsb⟩ : ∃ b, sameB x y = b := ⟨_, rfl⟩
  rw [hsb] at CZ CY
  clear hsb
  go_enter Tryz.func8, Tryz.ntmps8
  go_wp2_with fail
  refine (CF.out _ (HT.out.keep K0.out.below)).mono ?_
  rintro _ V ⟨rfl, hb⟩
  have K1 := Lib.hid (K0.out.keep hb)
  obtain ⟨⟨x0, x1, x2⟩, _, _, _⟩ := row3 (K1.out.at 0 rfl)
  clear hb
  go_wp2_with fail
  refine (CF'.out _ (HT'.out.keep K1.out.below)).mono ?_
  rintro _ V1 ⟨rfl, hb⟩
  have K2 := Lib.hid (K1.out.keep hb)
  clear hb x0 x1 x2
  obtain ⟨⟨x0, x1, x2⟩, _, _, _⟩ := row3 (K2.out.at 0 rfl)
  obtain ⟨⟨y0, y1, y2⟩, _, _, _⟩ := row3 (K2.out.at 1 rfl)
  have K3 := Lib.hid (K2.out.alloc (.cells #[.slice ta M tc, .slice ra N rc, .string f, .slice ta' M' tc', .slice ra' N' rc', .string f'] 25))
  go_wp2_with fail
  clear x0 x1 x2 y0 y1 y2
  go_loopw [6, 7, 8, 9, 10, 24] (fun _ _ _ _ _ v24 wr => ∃ k : Nat, k ≤ 2 ∧ v24 = .int .i64 k ∧ Kp [(V1.heap.size, .cells #[.slice ta M tc, .slice ra N rc, .string f, .slice ta' M' tc', .slice ra' N' rc', .string f'] 25 (0, 0)), (W.heap.size + 1, .cells #[.slice ta' M' tc', .slice ra' N' rc', .string f'] 25 (0, 0)), (W.heap.size, .cells #[.slice ta M tc, .slice ra N rc, .string f] 25 (0, 0))] [] W wr) (fun _ _ _ _ _ v24 _ => 2 - (intOf v24).toNat)
  case atStart => exact ⟨0, by omega, rfl, K3.out⟩
  case round =>
    obtain ⟨k, hk, rfl, hK⟩ := hrel
    have HK := Lib.hid hK
    clear hK K0 K1 K2 K3
    by_cases hlt : k < 2
    · obtain ⟨z, za, zm, zc, zb, zn, zd, g, hz80, hzt, c0, c1, c2⟩ : ∃ (z : Tab) (za : Option Addr) (zm zc : Nat) (zb : Option Addr) (zn zd : Nat) (g : ByteArray), z.trans.length ≤ 80 ∧ TabV W (.slice za zm zc) (.slice zb zn zd) g z ∧ wr.cell? ⟨V1.heap.size, k * 3, none⟩ = some (.slice za zm zc) ∧ wr.cell? ⟨V1.heap.size, k * 3 + 1, none⟩ = some (.slice zb zn zd) ∧ wr.cell? ⟨V1.heap.size, k * 3 + 2, none⟩ = some (.string g) := by
        have hk2 : k = 0 ∨ k = 1 := by omega
        rcases hk2 with rfl | rfl
        · exact ⟨x, ta, M, tc, ra, N, rc, f, HX80.out trivial, HT.out, cells_at (HK.out.at 0 rfl) 0, cells_at (HK.out.at 0 rfl) 1, cells_at (HK.out.at 0 rfl) 2⟩
        · exact ⟨y, ta', M', tc', ra', N', rc', f', HY80.out trivial, HT'.out, cells_at (HK.out.at 0 rfl) 3, cells_at (HK.out.at 0 rfl) 4, cells_at (HK.out.at 0 rfl) 5⟩
      have HZ := Lib.hid hzt
      have CT1 := Lib.hid (CT.out z (.slice za zm zc) (.slice zb zn zd) g hz80)
      have CR1 := Lib.hid (CR.out z (.slice za zm zc) (.slice zb zn zd) g hz80)
      have CC1 := Lib.hid (CC.out z (.slice za zm zc) (.slice zb zn zd) g)
      have CD1 := Lib.hid (CD.out z (.slice za zm zc) (.slice zb zn zd) g)
      have CS1 := Lib.hid (CS.out z (.slice za zm zc) (.slice zb zn zd) g)
      rw [same_self z] at CS1
      obtain ⟨⟨S, E⟩, hS⟩ : ∃ s, textP z = s := ⟨_, rfl⟩
      obtain ⟨E2, hE2⟩ : ∃ s, checkE z = s := ⟨_, rfl⟩
      rw [hS] at CT1 CR1
      rw [hE2] at CC1 CD1
      dsimp only at CT1 CR1
      have j1 : (k : Int) < 2 := by omega
      have hKu : V1.heap.size < wr.heap.size := HK.out.lt 0 rfl
      have KA := Lib.hid (HK.out.alloc (.cells #[.slice za zm zc, .slice zb zn zd, .string g] 25))
      clear hz80 hzt hS hE2 CT CR CC CD CS
      go_wp2_with fail
      refine (CT1.out _ (HZ.out.keep KA.out.below) (HE.out.keep KA.out.below)).mono ?_
      rintro _ V3 ⟨rfl, hb⟩
      have KB := Lib.hid (KA.out.keep hb)
      clear hb c0 c1 c2
      obtain ⟨⟨x0, x1, x2⟩, _, _, _⟩ := row3 (KB.out.at 0 rfl)
      go_wp2_with fail
      refine (CR1.out _ (HZ.out.keep KB.out.below)).mono ?_
      rintro _ V4 ⟨rfl, hb⟩
      have KC := Lib.hid (KB.out.keep hb)
      clear hb x0 x1 x2 KA KB
      obtain ⟨⟨x0, x1, x2⟩, _, _, _⟩ := row3 (KC.out.at 0 rfl)
      go_upto_region 8 with fail
      clear x0 x1 x2
      go_cut [58] (fun v wx => v = .bool false ∧ Below V4.heap.size V4 wx)
      case first =>
        go_region_held3 (fun w' => w'.cell? ⟨wr.heap.size, 0, none⟩ = some (.slice za zm zc) ∧ w'.cell? ⟨wr.heap.size, 1, none⟩ = some (.slice zb zn zd) ∧ w'.cell? ⟨wr.heap.size, 2, none⟩ = some (.string g) ∧ Below V4.heap.size V4 w')
          (first | exact row_keep3 0 KC.out rfl HX2.out | exact row_keep3 0 KC.out rfl HX1.out | exact row_keep3 0 KC.out rfl HX0.out | exact row_keep3 0 KC.out rfl (bdrew3 _))
          (first
            | (go_at_call 34; refine (CS1.out _ (HZ.out.keep (KC.out.keep HX1.out).below)).mono ?_; rintro e X ⟨rfl, hb⟩; have HX2 := Lib.hid (HX1.out.trans (hb.mono HX1.out.size)); clear hb)
            | (go_at_call 32; refine (CC1.out _ (HZ.out.keep (KC.out.keep HX0.out).below) (HE.out.keep (KC.out.keep HX0.out).below)).mono ?_; rintro e X ⟨rfl, hb⟩; have HX1 := Lib.hid (HX0.out.trans (hb.mono HX0.out.size)); clear hb)
            | (go_at_call 33; refine (CD1.out _ (HZ.out.keep (KC.out.keep HX0.out).below)).mono ?_; rintro e X ⟨rfl, hb⟩; have HX1 := Lib.hid (HX0.out.trans (hb.mono HX0.out.size)); clear hb)
            | (go_at_call 32; refine (CC1.out _ (HZ.out.keep (KC.out.keep (bdrew3 _)).below) (HE.out.keep (KC.out.keep (bdrew3 _)).below)).mono ?_; rintro e X ⟨rfl, hb⟩; have HX0 : Hid (Below V4.heap.size V4 X) := Lib.hid (below_over hb rfl rfl rfl rfl); clear hb)
            | (go_at_call 33; refine (CD1.out _ (HZ.out.keep (KC.out.keep (bdrew3 _)).below)).mono ?_; rintro e X ⟨rfl, hb⟩; have HX0 : Hid (Below V4.heap.size V4 X) := Lib.hid (below_over hb rfl rfl rfl rfl); clear hb))
        all_goals
          go_wp2_with fail
          go_meet
          exact ⟨rfl, HX2.out⟩
      case rest =>
        obtain ⟨rfl, hb⟩ := hcut
        have KD := Lib.hid (KC.out.keep hb)
        clear hb
        go_wp2_with fail
        go_roundw
        case rel => exact ⟨k + 1, by omega, by go_num, KD.out.drop⟩
        case measure => simp [intOf]; omega
    · obtain rfl : k = 2 := by omega
      obtain ⟨⟨x0, x1, x2⟩, _, _, _⟩ := row3 (HK.out.at 2 rfl)
      obtain ⟨⟨y0, y1, y2⟩, _, _, _⟩ := row3 (HK.out.at 1 rfl)
      go_wp2_with fail
      clear x0 x1 x2 y0 y1 y2
      go_region_held3 (fun w' => w'.cell? ⟨W.heap.size, 0, none⟩ = some (.slice ta M tc) ∧ w'.cell? ⟨W.heap.size, 1, none⟩ = some (.slice ra N rc) ∧ w'.cell? ⟨W.heap.size, 2, none⟩ = some (.string f) ∧ w'.cell? ⟨W.heap.size + 1, 0, none⟩ = some (.slice ta' M' tc') ∧ w'.cell? ⟨W.heap.size + 1, 1, none⟩ = some (.slice ra' N' rc') ∧ w'.cell? ⟨W.heap.size + 1, 2, none⟩ = some (.string f') ∧ Below wr.heap.size wr w')
        (first | exact row_keep33 2 1 HK.out rfl rfl HX2.out | exact row_keep33 2 1 HK.out rfl rfl HX1.out | exact row_keep33 2 1 HK.out rfl rfl HX0.out | exact row_keep33 2 1 HK.out rfl rfl (bdrew3 _))
        (first
          | (go_at_call 29; refine (CW.out _ (HE.out.keep (HK.out.keep HX1.out).below)).mono ?_; rintro e X ⟨rfl, hb⟩; have HX2 := Lib.hid (HX1.out.trans (hb.mono HX1.out.size)); clear hb)
          | (go_at_call 34; refine (CZ.out _ (HT.out.keep (HK.out.keep HX0.out).below) (HT'.out.keep (HK.out.keep HX0.out).below)).mono ?_; rintro e X ⟨rfl, hb⟩; have HX1 := Lib.hid (HX0.out.trans (hb.mono HX0.out.size)); clear hb)
          | (go_at_call 35; refine (CY.out _ (HT.out.keep (HK.out.keep HX0.out).below) (HT'.out.keep (HK.out.keep HX0.out).below)).mono ?_; rintro e X ⟨rfl, hb⟩; have HX1 := Lib.hid (HX0.out.trans (hb.mono HX0.out.size)); clear hb)
          | (go_at_call 34; refine (CZ.out _ (HT.out.keep (HK.out.keep (bdrew3 _)).below) (HT'.out.keep (HK.out.keep (bdrew3 _)).below)).mono ?_; rintro e X ⟨rfl, hb⟩; have HX0 : Hid (Below wr.heap.size wr X) := Lib.hid (below_over hb rfl rfl rfl rfl); clear hb)
          | (go_at_call 35; refine (CY.out _ (HT.out.keep (HK.out.keep (bdrew3 _)).below) (HT'.out.keep (HK.out.keep (bdrew3 _)).below)).mono ?_; rintro e X ⟨rfl, hb⟩; have HX0 : Hid (Below wr.heap.size wr X) := Lib.hid (below_over hb rfl rfl rfl rfl); clear hb))
      all_goals
        go_wp2_with fail
        go_ret
        exact ⟨rfl, (HK.out.keep HX2.out).below⟩
end Go.Proofs.YtlaplgaccjmbhaaGreatDoor.Px
namespace Go.Proofs.YtlaplgaccjmbhaaGreatDoor.Px
open Go.RowKit
open Civ Tb
theorem tableChecks_walk (x : Tab) (tv rv : Value) (f : ByteArray) {W : World} (h : TabV W tv rv f x) (hf : f.size ≤ maxLen) (y : Tab) (tv' rv' : Value) (f' : ByteArray) (h' : TabV W tv' rv' f' y) (hf' : f'.size ≤ maxLen) (hE : EnvAt W) :
    Calls Tryz.prog 8 #[.agg #[tv, rv, .string f], .agg #[tv', rv', .string f']] W fun e w' => e = .returned (.bool true) ∧ Below W.heap.size W w' :=
  tableChecks_cells x y tv rv tv' rv' f f' W h h' hE hf hf'
end Go.Proofs.YtlaplgaccjmbhaaGreatDoor.Px
namespace Go.Proofs.YtlaplgaccjmbhaaGreatDoor
open Go.ChangeShapes Go.WideShapes Go.ChangeAt Go.RowKit
open Go.ChangeMaps (open_string)
namespace tableChecks
theorem own : ownKnob Tryz.prog.godebug = none := by kernel_rfl
set_option maxRecDepth 100000 in
theorem lifted (os : Os) (started : os.Started) (H : Type) (enc : TypeId × Value → H) :
    ReturnsInHanded {} Tryz.checked os 8 .any (fun w args => (Rows.tableChecksSpec.pre enc Tryz.prog Tryz.f8 Rows.tableChecksRow.domain false w args ∧ laidMetH Tryz.prog Rows.tableChecksRow.laid w) ∧ sizedMet enc Tryz.prog Tryz.f8 (OpenSpec.ofChange Rows.tableChecksSpec) false w args)
      (Rows.tableChecksSpec.post enc Tryz.prog Tryz.f8 false true false false) := by
  refine returnsInHanded_of_change_and (C := Tryz.checked) (X := fun w _ => laidMetH Tryz.prog Rows.tableChecksRow.laid w) (fun _ _ _ hh h => h.of_heap hh) own started (by kernel_rfl) Tryz.func8
    (ChangeSpec.witness_shaped (enc := enc) (C := Tryz.checked) (os := os) (X := fun w _ => laidMetH Tryz.prog Rows.tableChecksRow.laid w) false ((World.doorLaid Tryz.prog 4000 os).layVars Tryz.prog [("unicode/utf8.first", Rows.laid_unicode_utf8_first)]) #[.agg #[.slice none 0 0, .slice none 0 0, .string ByteArray.empty], .agg #[.slice none 0 0, .slice none 0 0, .string ByteArray.empty]] 8 (door_os os)
      (World.shaped_of_ZipB (by kernel_rfl) (by kernel_rfl)) (by kernel_rfl) (by kernel_rfl) (by kernel_rfl) (door_met os _)) ?_
  intro W base args ds gs before hval0 hW _ _ hL _
  have hval : ∀ (j : Nat) t v, Tryz.f8.params[j]? = some t → args[j]? = some v → Value.okWide Tryz.prog W .any base t v := hval0
  have hEnv : Px.EnvAt W := Px.env_of hL
  have hW' := hW
  obtain ⟨p, q, hA0, hV, rfl, _, _⟩ := hW
  have hA : DataW.TrodAll enc Tryz.prog W 0 (fun _ => true) true Tryz.f8.params.toList args.toList ds p := hA0
  rw [Tryz.params8] at hA hval
  obtain ⟨v0, vs0, d0, ds0, p0, q0, hargs, rfl, rfl, h0, r0⟩ := trodAll_cons hA
  obtain ⟨v1, vs1, d1, ds1, p1, q1, rfl, rfl, rfl, h1, r1⟩ := trodAll_cons r0
  obtain ⟨rfl, rfl, rfl⟩ := trodAll_nil r1
  obtain rfl : args = #[v0, v1] := by cases args; simp_all
  obtain ⟨rfl, rfl⟩ := trodVars_none hV
  obtain ⟨x0, tv0, rv0, f0, rfl, hx0, hf0⟩ := Px.open_table (hval 0 25 v0 rfl rfl) h0
  obtain ⟨x1, tv1, rv1, f1, rfl, hx1, hf1⟩ := Px.open_table (hval 1 25 v1 rfl rfl) h1
  refine (Px.tableChecks_walk x0 tv0 rv0 f0 hx0 hf0 x1 tv1 rv1 f1 hx1 hf1 hEnv).mono fun e W' ⟨he, hB⟩ => ?_
  subst he
  refine ⟨_, rfl, post_law (by kernel_rfl) ?_ rfl hW' rfl rfl Tryz.underlying4 hB⟩
  rw [Tryz.params8]
  intro t ht
  have hall : ([25, 25].all fun u => Tryz.prog.readableRec u && decide (u < Tryz.prog.types.size)) = true := by kernel_rfl
  have h1 := List.all_eq_true.1 hall t ht
  have h2 : Tryz.prog.readableRec t = true ∧ t < Tryz.prog.types.size := by simpa using h1
  exact h2
set_option maxHeartbeats 8000000 in
theorem facts : joinedFacts Tryz.pinned.checked.prog 8 Tryz.f8 Rows.tableChecksSpec Rows.tableChecksRow = true := by
  simp only [joinedFacts, Bool.and_eq_true]
  and_intros
  all_goals (as_aux_lemma => kernel_rfl)
theorem named : Tryz.pinned.checked.prog.funcNamed Rows.tableChecksRow.func = some 8 := by kernel_rfl
theorem said : Rows.TableChecksSaid :=
  OpenClaim.holds_of_wide 8 Tryz.f8 rfl rfl rfl rfl rfl rfl rfl ⟨rfl, rfl, rfl, rfl, rfl⟩ rfl rfl rfl rfl rfl named Tryz.func8 facts
    (of_decide_eq_true (by kernel_rfl)) (by unfold Func.isWrapper; first | (rw [if_pos (by decide +kernel)]; kernel_rfl) | (rw [if_neg (by decide +kernel)]; exact ⟨rfl, rfl⟩))
    (fun os started H enc _ => lifted os started H enc)
theorem plain (f : FuncId) (fn : Func) (hf : Tryz.pinned.checked.prog.funcNamed "analemma/analemmalaw40.TableChecks" = some f) (hfn : Tryz.pinned.checked.prog.funcs[f]? = some fn) :
    true = Tryz.pinned.checked.prog.looks [] ∧ ∀ (j : Nat) t, fn.params[j]? = some t → Tryz.pinned.checked.prog.wantsStandIn t = false := by
  obtain rfl : f = 8 := Option.some.inj ((show Tryz.prog.funcNamed "analemma/analemmalaw40.TableChecks" = some 8 by kernel_rfl).symm.trans hf) |>.symm
  obtain rfl : fn = Tryz.f8 := (Option.some.inj (Tryz.func8.symm.trans hfn)).symm
  refine ⟨by kernel_rfl, fun j t ht => ?_⟩
  rw [Tryz.params8] at ht
  have hm : t ∈ [25, 25] := by simpa using Array.mem_of_getElem? ht
  have hall : ([25, 25].all fun u => !Tryz.prog.wantsStandIn u) = true := by kernel_rfl
  exact (show Tryz.prog.wantsStandIn t = false by simpa using List.all_eq_true.1 hall t hm)
theorem card : Rows.TableChecksCardSaid :=
  Claim7.holds_tied_plain_at .later [] _ _ _ _ said (fun _ h => by cases h) (by kernel_rfl) (fun _ h => by cases h) tableChecks_row_tie rfl ⟨rfl, rfl⟩ (by kernel_rfl) rfl plain (by kernel_rfl)
end tableChecks
#print axioms tableChecks.card
end Go.Proofs.YtlaplgaccjmbhaaGreatDoor

