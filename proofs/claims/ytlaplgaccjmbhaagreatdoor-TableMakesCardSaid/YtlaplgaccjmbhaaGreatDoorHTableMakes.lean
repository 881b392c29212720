/- The law TableChecks: the walk. The law TableMakes: the walk. The law TableMakes returns true for every first local time, all instants and local times and every footer, and its tied card holds; no condition beyond the row itself. -/
import Derived.Test.YtlaplgaccjmbhaaGreatDoorG26
import Derived.Test.YtlaplgaccjmbhaaGreatDoorG23
import Derived.Test.YtlaplgaccjmbhaaGreatDoorG24
import Derived.Test.YtlaplgaccjmbhaaGreatDoorG27
import Derived.Test.YtlaplgaccjmbhaaGreatDoorG13
import Derived.Test.YtlaplgaccjmbhaaGreatDoorG14
namespace Go.Proofs.YtlaplgaccjmbhaaGreatDoor.Px
open Go.RowKit
open Civ Tb

theorem bdrew3 (X : World) : Below X.heap.size X X.drew := Civ.below_drewN (Below.refl _ X) 1
theorem row_keep3 {L : List (Nat × Obj)} {R : List Rw} {W X Y : World} {b : Nat} {c0 c1 c2 : Value} {t : TypeId} (k : Nat) (K : Kp L R W X) (hk : L[k]? = some (b, .cells #[c0, c1, c2] t (0, 0))) (hB : Below X.heap.size X Y) :
    Y.cell? ⟨b, 0, none⟩ = some c0 ∧ Y.cell? ⟨b, 1, none⟩ = some c1 ∧ Y.cell? ⟨b, 2, none⟩ = some c2 ∧ Below X.heap.size X Y :=
  ⟨(row3 ((K.keep hB).at k hk)).1.1, (row3 ((K.keep hB).at k hk)).1.2.1, (row3 ((K.keep hB).at k hk)).1.2.2, hB⟩
theorem row_keep33 {L : List (Nat × Obj)} {R : List Rw} {W X Y : World} {b : Nat} {c0 c1 c2 : Value} {t : TypeId} {b' : Nat} {d0 d1 d2 : Value} {t' : TypeId} (k k' : Nat) (K : Kp L R W X) (hk : L[k]? = some (b, .cells #[c0, c1, c2] t (0, 0))) (hk' : L[k']? = some (b', .cells #[d0, d1, d2] t' (0, 0))) (hB : Below X.heap.size X Y) :
    Y.cell? ⟨b, 0, none⟩ = some c0 ∧ Y.cell? ⟨b, 1, none⟩ = some c1 ∧ Y.cell? ⟨b, 2, none⟩ = some c2 ∧ Y.cell? ⟨b', 0, none⟩ = some d0 ∧ Y.cell? ⟨b', 1, none⟩ = some d1 ∧ Y.cell? ⟨b', 2, none⟩ = some d2 ∧ Below X.heap.size X Y :=
  ⟨(row3 ((K.keep hB).at k hk)).1.1, (row3 ((K.keep hB).at k hk)).1.2.1, (row3 ((K.keep hB).at k hk)).1.2.2, row_keep3 k' K hk' hB⟩
theorem same_self (x : Tab) : sameB x x = true := by simp [sameB]
set_option maxHeartbeats 16000000 in
set_option maxRecDepth 100000 in
theorem tableChecks_cells (x y : Tab) (tv rv tv' rv' : Value) (f f' : ByteArray) (W : World) (h : TabV W tv rv f x) (h' : TabV W tv' rv' f' y) (hE : EnvAt W) (hf : f.size ≤ maxLen) (hf' : f'.size ≤ maxLen) :
    Calls Tryz.prog 8 #[.agg #[tv, rv, .string f], .agg #[tv', rv', .string f']] W fun e w' => e = .returned (.bool true) ∧ Below W.heap.size W w' := by
  obtain ⟨ta, tc, htv, t1, t2⟩ := h.types.slice
  obtain ⟨ra, rc, hrv, r1, r2⟩ := h.trans.slice
  obtain ⟨ta', tc', htv', t1', t2'⟩ := h'.types.slice
  obtain ⟨ra', rc', hrv', r1', r2'⟩ := h'.trans.slice
  obtain ⟨M, hM⟩ : ∃ n, x.types.length = n := ⟨_, rfl⟩
  obtain ⟨N, hN⟩ : ∃ n, x.trans.length = n := ⟨_, rfl⟩
  obtain ⟨M', hM'⟩ : ∃ n, y.types.length = n := ⟨_, rfl⟩
  obtain ⟨N', hN'⟩ : ∃ n, y.trans.length = n := ⟨_, rfl⟩
  rw [hM] at htv
  rw [hN] at hrv
  rw [hM'] at htv'
  rw [hN'] at hrv'
  subst htv hrv htv' hrv'
  have HT := Lib.hid h
  have HT' := Lib.hid h'
  have HE := Lib.hid hE
  have CW := Lib.hid (fun w hE => works40_any w hE)
  have CF := Lib.hid (fun w h => few_any x (.slice ta M tc) (.slice ra N rc) f w h hf)
  have CF' := Lib.hid (fun w h => few_any y (.slice ta' M' tc') (.slice ra' N' rc') f' w h hf')
  have K0 := Lib.hid (((Kp.start W).alloc (.cells #[.slice ta M tc, .slice ra N rc, .string f] 25)).allocAt (W.heap.size + 1) (by simp) (.cells #[.slice ta' M' tc', .slice ra' N' rc', .string f'] 25))
  have hx80 : fewB x f.size = true → x.trans.length ≤ 80 := fun q => by unfold fewB at q; simp only [Bool.and_eq_true, decide_eq_true_eq] at q; exact q.1.2
  have hy80 : fewB y f'.size = true → y.trans.length ≤ 80 := fun q => by unfold fewB at q; simp only [Bool.and_eq_true, decide_eq_true_eq] at q; exact q.1.2
  have HX80 := Lib.hid hx80
  have HY80 := Lib.hid hy80
  obtain ⟨bx, hbx⟩ : ∃ b, fewB x f.size = b := ⟨_, rfl⟩
  obtain ⟨bY, hby⟩ : ∃ b, fewB y f'.size = b := ⟨_, rfl⟩
  rw [hbx] at CF HX80
  rw [hby] at CF' HY80
  clear h h' hE hf hf' t1 t2 r1 r2 t1' t2' r1' r2' hM hN hM' hN' hbx hby hx80 hy80
  cases bx
  · go_enter Tryz.func8, Tryz.ntmps8
    go_wp2_with fail
    refine (CF.out _ (HT.out.keep K0.out.below)).mono ?_
    rintro _ V ⟨rfl, hb⟩
    have K1 := Lib.hid (K0.out.keep hb)
    clear hb
    go_wp2_with fail
    refine (CW.out _ (HE.out.keep K1.out.below)).mono ?_
    rintro _ V2 ⟨rfl, hb⟩
    have K2 := Lib.hid (K1.out.keep hb)
    clear hb
    go_wp2_with fail
    go_ret
    exact ⟨rfl, K2.out.below⟩
  cases bY
  · go_enter Tryz.func8, Tryz.ntmps8
    go_wp2_with fail
    refine (CF.out _ (HT.out.keep K0.out.below)).mono ?_
    rintro _ V ⟨rfl, hb⟩
    have K1 := Lib.hid (K0.out.keep hb)
    obtain ⟨⟨x0, x1, x2⟩, _, _, _⟩ := row3 (K1.out.at 0 rfl)
    clear hb
    go_wp2_with fail
    refine (CF'.out _ (HT'.out.keep K1.out.below)).mono ?_
    rintro _ V1 ⟨rfl, hb⟩
    have K1' := Lib.hid (K1.out.keep hb)
    clear hb x0 x1 x2
    go_wp2_with fail
    refine (CW.out _ (HE.out.keep K1'.out.below)).mono ?_
    rintro _ V2 ⟨rfl, hb⟩
    have K2 := Lib.hid (K1'.out.keep hb)
    clear hb
    go_wp2_with fail
    go_ret
    exact ⟨rfl, K2.out.below⟩
  have CT := Lib.hid (fun (z : Tab) (tv rv : Value) (g : ByteArray) (hz : z.trans.length ≤ 80) w h hE => ttext_any z tv rv g w h hE (by omega))
  have CR := Lib.hid (fun (z : Tab) (tv rv : Value) (g : ByteArray) (hz : z.trans.length ≤ 80) w h => rttext_any z tv rv g w h (by omega))
  have CC := Lib.hid (fun (z : Tab) (tv rv : Value) (g : ByteArray) w h hE => tcheck_any z tv rv g w h hE)
  have CD := Lib.hid (fun (z : Tab) (tv rv : Value) (g : ByteArray) w h => rcheck_any z tv rv g w h)
  have CS := Lib.hid (fun (z : Tab) (tv rv : Value) (g : ByteArray) w h => same_any z z tv rv tv rv g g w h h)
  have CZ := Lib.hid (fun w h h' => same_any x y (.slice ta M tc) (.slice ra N rc) (.slice ta' M' tc') (.slice ra' N' rc') f f' w h h')
  have CY := Lib.hid (fun w h h' => rsame_any x y (.slice ta M tc) (.slice ra N rc) (.slice ta' M' tc') (.slice ra' N' rc') f f' w h h')
  obtain ⟨sb, hsb⟩ : ∃ b, sameB x y = b := ⟨_, rfl⟩
  rw [hsb] at CZ CY
  clear hsb
  go_enter Tryz.func8, Tryz.ntmps8
  go_wp2_with fail
  refine (CF.out _ (HT.out.keep K0.out.below)).mono ?_
  rintro _ V ⟨rfl, hb⟩
  have K1 := Lib.hid (K0.out.keep hb)
  obtain ⟨⟨x0, x1, x2⟩, _, _, _⟩ := row3 (K1.out.at 0 rfl)
  clear hb
  go_wp2_with fail
  refine (CF'.out _ (HT'.out.keep K1.out.below)).mono ?_
  rintro _ V1 ⟨rfl, hb⟩
  have K2 := Lib.hid (K1.out.keep hb)
  clear hb x0 x1 x2
  obtain ⟨⟨x0, x1, x2⟩, _, _, _⟩ := row3 (K2.out.at 0 rfl)
  obtain ⟨⟨y0, y1, y2⟩, _, _, _⟩ := row3 (K2.out.at 1 rfl)
  have K3 := Lib.hid (K2.out.alloc (.cells #[.slice ta M tc, .slice ra N rc, .string f, .slice ta' M' tc', .slice ra' N' rc', .string f'] 25))
  go_wp2_with fail
  clear x0 x1 x2 y0 y1 y2
  go_loopw [6, 7, 8, 9, 10, 24] (fun _ _ _ _ _ v24 wr => ∃ k : Nat, k ≤ 2 ∧ v24 = .int .i64 k ∧ Kp [(V1.heap.size, .cells #[.slice ta M tc, .slice ra N rc, .string f, .slice ta' M' tc', .slice ra' N' rc', .string f'] 25 (0, 0)), (W.heap.size + 1, .cells #[.slice ta' M' tc', .slice ra' N' rc', .string f'] 25 (0, 0)), (W.heap.size, .cells #[.slice ta M tc, .slice ra N rc, .string f] 25 (0, 0))] [] W wr) (fun _ _ _ _ _ v24 _ => 2 - (intOf v24).toNat)
  case atStart => exact ⟨0, by omega, rfl, K3.out⟩
  case round =>
    obtain ⟨k, hk, rfl, hK⟩ := hrel
    have HK := Lib.hid hK
    clear hK K0 K1 K2 K3
    by_cases hlt : k < 2
    · obtain ⟨z, za, zm, zc, zb, zn, zd, g, hz80, hzt, c0, c1, c2⟩ : ∃ (z : Tab) (za : Option Addr) (zm zc : Nat) (zb : Option Addr) (zn zd : Nat) (g : ByteArray), z.trans.length ≤ 80 ∧ TabV W (.slice za zm zc) (.slice zb zn zd) g z ∧ wr.cell? ⟨V1.heap.size, k * 3, none⟩ = some (.slice za zm zc) ∧ wr.cell? ⟨V1.heap.size, k * 3 + 1, none⟩ = some (.slice zb zn zd) ∧ wr.cell? ⟨V1.heap.size, k * 3 + 2, none⟩ = some (.string g) := by
        have hk2 : k = 0 ∨ k = 1 := by omega
        rcases hk2 with rfl | rfl
        · exact ⟨x, ta, M, tc, ra, N, rc, f, HX80.out trivial, HT.out, cells_at (HK.out.at 0 rfl) 0, cells_at (HK.out.at 0 rfl) 1, cells_at (HK.out.at 0 rfl) 2⟩
        · exact ⟨y, ta', M', tc', ra', N', rc', f', HY80.out trivial, HT'.out, cells_at (HK.out.at 0 rfl) 3, cells_at (HK.out.at 0 rfl) 4, cells_at (HK.out.at 0 rfl) 5⟩
      have HZ := Lib.hid hzt
      have CT1 := Lib.hid (CT.out z (.slice za zm zc) (.slice zb zn zd) g hz80)
      have CR1 := Lib.hid (CR.out z (.slice za zm zc) (.slice zb zn zd) g hz80)
      have CC1 := Lib.hid (CC.out z (.slice za zm zc) (.slice zb zn zd) g)
      have CD1 := Lib.hid (CD.out z (.slice za zm zc) (.slice zb zn zd) g)
      have CS1 := Lib.hid (CS.out z (.slice za zm zc) (.slice zb zn zd) g)
      rw [same_self z] at CS1
      obtain ⟨⟨S, E⟩, hS⟩ : ∃ s, textP z = s := ⟨_, rfl⟩
      obtain ⟨E2, hE2⟩ : ∃ s, checkE z = s := ⟨_, rfl⟩
      rw [hS] at CT1 CR1
      rw [hE2] at CC1 CD1
      dsimp only at CT1 CR1
      have j1 : (k : Int) < 2 := by omega
      have hKu : V1.heap.size < wr.heap.size := HK.out.lt 0 rfl
      have KA := Lib.hid (HK.out.alloc (.cells #[.slice za zm zc, .slice zb zn zd, .string g] 25))
      clear hz80 hzt hS hE2 CT CR CC CD CS
      go_wp2_with fail
      refine (CT1.out _ (HZ.out.keep KA.out.below) (HE.out.keep KA.out.below)).mono ?_
      rintro _ V3 ⟨rfl, hb⟩
      have KB := Lib.hid (KA.out.keep hb)
      clear hb c0 c1 c2
      obtain ⟨⟨x0, x1, x2⟩, _, _, _⟩ := row3 (KB.out.at 0 rfl)
      go_wp2_with fail
      refine (CR1.out _ (HZ.out.keep KB.out.below)).mono ?_
      rintro _ V4 ⟨rfl, hb⟩
      have KC := Lib.hid (KB.out.keep hb)
      clear hb x0 x1 x2 KA KB
      obtain ⟨⟨x0, x1, x2⟩, _, _, _⟩ := row3 (KC.out.at 0 rfl)
      go_upto_region 8 with fail
      clear x0 x1 x2
      go_cut [58] (fun v wx => v = .bool false ∧ Below V4.heap.size V4 wx)
      case first =>
        go_region_held3 (fun w' => w'.cell? ⟨wr.heap.size, 0, none⟩ = some (.slice za zm zc) ∧ w'.cell? ⟨wr.heap.size, 1, none⟩ = some (.slice zb zn zd) ∧ w'.cell? ⟨wr.heap.size, 2, none⟩ = some (.string g) ∧ Below V4.heap.size V4 w')
          (first | exact row_keep3 0 KC.out rfl HX2.out | exact row_keep3 0 KC.out rfl HX1.out | exact row_keep3 0 KC.out rfl HX0.out | exact row_keep3 0 KC.out rfl (bdrew3 _))
          (first
            | (go_at_call 34; refine (CS1.out _ (HZ.out.keep (KC.out.keep HX1.out).below)).mono ?_; rintro e X ⟨rfl, hb⟩; have HX2 := Lib.hid (HX1.out.trans (hb.mono HX1.out.size)); clear hb)
            | (go_at_call 32; refine (CC1.out _ (HZ.out.keep (KC.out.keep HX0.out).below) (HE.out.keep (KC.out.keep HX0.out).below)).mono ?_; rintro e X ⟨rfl, hb⟩; have HX1 := Lib.hid (HX0.out.trans (hb.mono HX0.out.size)); clear hb)
            | (go_at_call 33; refine (CD1.out _ (HZ.out.keep (KC.out.keep HX0.out).below)).mono ?_; rintro e X ⟨rfl, hb⟩; have HX1 := Lib.hid (HX0.out.trans (hb.mono HX0.out.size)); clear hb)
            | (go_at_call 32; refine (CC1.out _ (HZ.out.keep (KC.out.keep (bdrew3 _)).below) (HE.out.keep (KC.out.keep (bdrew3 _)).below)).mono ?_; rintro e X ⟨rfl, hb⟩; have HX0 : Hid (Below V4.heap.size V4 X) := Lib.hid (below_over hb rfl rfl rfl rfl); clear hb)
            | (go_at_call 33; refine (CD1.out _ (HZ.out.keep (KC.out.keep (bdrew3 _)).below)).mono ?_; rintro e X ⟨rfl, hb⟩; have HX0 : Hid (Below V4.heap.size V4 X) := Lib.hid (below_over hb rfl rfl rfl rfl); clear hb))
        all_goals
          go_wp2_with fail
          go_meet
          exact ⟨rfl, HX2.out⟩
      case rest =>
        obtain ⟨rfl, hb⟩ := hcut
        have KD := Lib.hid (KC.out.keep hb)
        clear hb
        go_wp2_with fail
        go_roundw
        case rel => exact ⟨k + 1, by omega, by go_num, KD.out.drop⟩
        case measure => simp [intOf]; omega
    · obtain rfl : k = 2 := by omega
      obtain ⟨⟨x0, x1, x2⟩, _, _, _⟩ := row3 (HK.out.at 2 rfl)
      obtain ⟨⟨y0, y1, y2⟩, _, _, _⟩ := row3 (HK.out.at 1 rfl)
      go_wp2_with fail
      clear x0 x1 x2 y0 y1 y2
      go_region_held3 (fun w' => w'.cell? ⟨W.heap.size, 0, none⟩ = some (.slice ta M tc) ∧ w'.cell? ⟨W.heap.size, 1, none⟩ = some (.slice ra N rc) ∧ w'.cell? ⟨W.heap.size, 2, none⟩ = some (.string f) ∧ w'.cell? ⟨W.heap.size + 1, 0, none⟩ = some (.slice ta' M' tc') ∧ w'.cell? ⟨W.heap.size + 1, 1, none⟩ = some (.slice ra' N' rc') ∧ w'.cell? ⟨W.heap.size + 1, 2, none⟩ = some (.string f') ∧ Below wr.heap.size wr w')
        (first | exact row_keep33 2 1 HK.out rfl rfl HX2.out | exact row_keep33 2 1 HK.out rfl rfl HX1.out | exact row_keep33 2 1 HK.out rfl rfl HX0.out | exact row_keep33 2 1 HK.out rfl rfl (bdrew3 _))
        (first
          | (go_at_call 29; refine (CW.out _ (HE.out.keep (HK.out.keep HX1.out).below)).mono ?_; rintro e X ⟨rfl, hb⟩; have HX2 := Lib.hid (HX1.out.trans (hb.mono HX1.out.size)); clear hb)
          | (go_at_call 34; refine (CZ.out _ (HT.out.keep (HK.out.keep HX0.out).below) (HT'.out.keep (HK.out.keep HX0.out).below)).mono ?_; rintro e X ⟨rfl, hb⟩; have HX1 := Lib.hid (HX0.out.trans (hb.mono HX0.out.size)); clear hb)
          | (go_at_call 35; refine (CY.out _ (HT.out.keep (HK.out.keep HX0.out).below) (HT'.out.keep (HK.out.keep HX0.out).below)).mono ?_; rintro e X ⟨rfl, hb⟩; have HX1 := Lib.hid (HX0.out.trans (hb.mono HX0.out.size)); clear hb)
          | (go_at_call 34; refine (CZ.out _ (HT.out.keep (HK.out.keep (bdrew3 _)).below) (HT'.out.keep (HK.out.keep (bdrew3 _)).below)).mono ?_; rintro e X ⟨rfl, hb⟩; have HX0 : Hid (Below wr.heap.size wr X) := Lib.hid (below_over hb rfl rfl rfl rfl); clear hb)
          | (go_at_call 35; refine (CY.out _ (HT.out.keep (HK.out.keep (bdrew3 _)).below) (HT'.out.keep (HK.out.keep (bdrew3 _)).below)).mono ?_; rintro e X ⟨rfl, hb⟩; have HX0 : Hid (Below wr.heap.size wr X) := Lib.hid (below_over hb rfl rfl rfl rfl); clear hb))
      all_goals
        go_wp2_with fail
        go_ret
        exact ⟨rfl, (HK.out.keep HX2.out).below⟩
end Go.Proofs.YtlaplgaccjmbhaaGreatDoor.Px
namespace Go.Proofs.YtlaplgaccjmbhaaGreatDoor.Px
open Go.RowKit
open Civ Tb

theorem wpList_append_eq_g {P : Program} {w : World} {ops : Array Oper} {rest : List Oper} {o : Oper} {a : Act} {Q : Exit → Act → World → Prop} (hgd : Region.wanted o (yielded ops a.tmps) = true) (s x : Operand) (t : TypeId)
    (ho : o.op = .call { callee := .builtin .append, args := #[s, x], argTypes := #[t, t] }) (vs vx v' : Value) (w' : World) (hs : a.eval s = vs) (hx : a.eval x = vx) (hr : (Builtin.append_ #[t, t] o.type #[vs, vx]).run P w = .ok v' w')
    (h : wpList P ops Q rest (a.put o.dst v') w') : wpList P ops Q (o :: rest) a w := by
  refine wpList_step fun K hK => ?_
  rw [if_pos hgd]
  unfold Oper.wp execOp
  simp only [ho, resolve, invoke, builtin, Sem.run_bind, Sem.run_pure, Result.andThen_ok, List.map_toArray, List.map_cons, List.map_nil, hs, hx, hr]
  exact hK _ _ h
set_option maxHeartbeats 16000000 in
set_option maxRecDepth 100000 in
theorem tableMakes_cells (first : Lc) (at' : List Int) (l : List Lc) (av lv : Value) (s : ByteArray) (W : World) (hA : IsV W .i64 av at') (hL : LcV W lv l) (hnil : ∀ c, lv = .slice none l.length c → c = 0) (hfF : Lc.Fit first) (hfl : ∀ x ∈ l, Lc.Fit x)
    (hfa : ∀ t ∈ at', (Lit.int .i64 t).wf = true) (hs : s.size ≤ maxLen) (hE : EnvAt W) :
    Calls Tryz.prog 9 #[first.val, av, lv, .string s] W fun e w' => e = .returned (.bool true) ∧ Below W.heap.size W w' := by
  have hsb : bs s.data.toList = s := bs_back s
  obtain ⟨sl, hsl⟩ : ∃ l, s.data.toList = l := ⟨_, rfl⟩
  rw [hsl] at hsb
  obtain ⟨aa, ac, hav, _, _⟩ := hA.slice
  obtain ⟨la, lc, hlv, _, _⟩ := hL.slice
  obtain ⟨K, hK⟩ : ∃ n, at'.length = n := ⟨_, rfl⟩
  obtain ⟨M, hM⟩ : ∃ n, l.length = n := ⟨_, rfl⟩
  rw [hK] at hav
  rw [hM] at hlv hnil
  subst hav hlv
  have HA := Lib.hid hA
  have HL := Lib.hid hL
  have HE := Lib.hid hE
  have HNil := Lib.hid hnil
  have HFl := Lib.hid hfl
  have HFa := Lib.hid hfa
  have HF := Lib.hid hfF
  have HS := Lib.hid hsb
  have HM := Lib.hid hM
  have HK := Lib.hid hK
  have HSz := Lib.hid hs
  have CW := Lib.hid (fun w hE => works40_any w hE)
  obtain ⟨⟨fo, fd, fa⟩, hf0⟩ : ∃ x, first = x := ⟨_, rfl⟩
  have HF0 := Lib.hid hf0
  have K0 := Lib.hid ((Kp.start W).alloc (.cells #[.int .i64 fo, .bool fd, .string fa] 28))
  rw [hf0]
  unfold Lc.val
  dsimp only
  clear hA hL hE hnil hfl hfa hfF hsb hsl hK hM hs hf0
  by_cases h1 : K ≤ 80
  case neg =>
    have j1 : 80 < (K : Int) := by omega
    go_enter Tryz.func9, Tryz.ntmps9
    go_wp2_with fail
    refine (CW.out _ (HE.out.keep K0.out.below)).mono ?_
    rintro _ V ⟨rfl, hb⟩
    have K1 := Lib.hid (K0.out.keep hb)
    clear hb
    go_wp2_with fail
    go_ret
    exact ⟨rfl, K1.out.below⟩
  have j1 : ¬ 80 < (K : Int) := by omega
  by_cases h2 : M ≤ 80
  case neg =>
    have j2 : 80 < (M : Int) := by omega
    go_enter Tryz.func9, Tryz.ntmps9
    go_wp2_with fail
    refine (CW.out _ (HE.out.keep K0.out.below)).mono ?_
    rintro _ V ⟨rfl, hb⟩
    have K1 := Lib.hid (K0.out.keep hb)
    clear hb
    go_wp2_with fail
    go_ret
    exact ⟨rfl, K1.out.below⟩
  have j2 : ¬ 80 < (M : Int) := by omega
  have K1 := Lib.hid ((K0.out.allocAt (W.heap.size + 1) (by simp) (.cells #[.int .i64 fo, .bool fd, .string fa] 28)).own_block 3 1 1 (by omega) (by unfold maxLen; omega) rfl)
  obtain ⟨v', w1, hr, hk⟩ := append_list K1.out l (.slice la M lc) (HL.out.keep K1.out.below) (fun c e => HNil.out c (by rw [HM.out] at e; exact e)) (by have := HM.out; omega)
  rw [HM.out] at hk
  obtain ⟨xa, xc, rfl⟩ : ∃ a c, v' = .slice a (1 + M) c := own_slice (hk.row 0 rfl)
  have HR := Lib.hid hr
  have K2 := Lib.hid hk
  have HX := Lib.hid (show TabV w1 (.slice xa (1 + M) xc) (.slice none 0 0) s ⟨first :: l, [], sl⟩ from ⟨LcV.own (B := W.heap.size) (e := 28) (n := 1 + M) (by rw [HF0.out]; exact hk.row 0 rfl) (by rw [List.length_cons, HM.out]; omega), TrV.nil _, HS.out.symm, fun x hx => by
    rcases List.mem_cons.1 hx with rfl | hx
    · exact HF.out
    · exact HFl.out x hx, fun _ h => by cases h⟩)
  have CF := Lib.hid (few_any ⟨first :: l, [], sl⟩ (.slice xa (1 + M) xc) (.slice none 0 0) s w1 HX.out HSz.out)
  obtain ⟨b, hb0⟩ : ∃ b, fewB ⟨first :: l, [], sl⟩ s.size = b := ⟨_, rfl⟩
  rw [hb0] at CF
  clear hr hk hb0
  cases b
  · go_enter Tryz.func9, Tryz.ntmps9
    go_wp2_with (at_builtin; refine wpList_append_eq_g rfl _ _ 22 rfl _ _ (.slice xa (1 + M) xc) w1 rfl rfl HR.out ?_)
    refine CF.out.mono ?_
    rintro _ V ⟨rfl, hb⟩
    have K3 := Lib.hid (K2.out.keep hb)
    clear hb
    go_wp2_with fail
    refine (CW.out _ (HE.out.keep K3.out.below)).mono ?_
    rintro _ V2 ⟨rfl, hb⟩
    have K4 := Lib.hid (K3.out.keep hb)
    clear hb
    go_wp2_with fail
    go_ret
    exact ⟨rfl, K4.out.below⟩
  have CO := Lib.hid (fun w h1 h2 h3 => of_any first at' l (.slice aa K ac) (.slice la M lc) sl w h1 h2 (fun c e => HNil.out c (by rw [HM.out] at e; exact e)) HF.out HFl.out HFa.out h3 (by have := HM.out; omega))
  have CP := Lib.hid (fun w h1 h2 => rof_any first at' l (.slice aa K ac) (.slice la M lc) sl w h1 h2 HF.out HFl.out HFa.out (by have := HM.out; omega))
  obtain ⟨⟨X, E⟩, hX⟩ : ∃ x, ofT first at' l sl = x := ⟨_, rfl⟩
  rw [hX, HS.out, HF0.out] at CO CP
  unfold Lc.val at CO CP
  dsimp only at CO CP
  have CS := Lib.hid (fun tv rv tv' rv' w h h' => rsame_any X X tv rv tv' rv' (bs X.foot) (bs X.foot) w h h')
  rw [same_self X] at CS
  clear hX
  go_enter Tryz.func9, Tryz.ntmps9
  go_wp2_with (at_builtin; refine wpList_append_eq_g rfl _ _ 22 rfl _ _ (.slice xa (1 + M) xc) w1 rfl rfl HR.out ?_)
  refine CF.out.mono ?_
  rintro _ V ⟨rfl, hb⟩
  have K3 := Lib.hid ((K2.out.keep hb).less (List.nil_sublist _))
  clear hb
  obtain ⟨⟨x0, x1, x2⟩, _, _, _⟩ := row3 (K3.out.at 0 rfl)
  go_wp2_with fail
  refine (CO.out _ (HA.out.keep K3.out.below) (HL.out.keep K3.out.below) (HE.out.keep K3.out.below)).mono ?_
  rintro _ V2 ⟨tv, rv, rfl, hk, hf⟩
  have hk1 := K3.out.adopt hk
  obtain ⟨t1, t2, rfl⟩ : ∃ a c, tv = .slice a X.types.length c := own_slice (hk1.row 1 rfl)
  obtain ⟨r1, r2, rfl⟩ : ∃ a c, rv = .slice a X.trans.length c := own_slice (hk1.row 0 rfl)
  have HT1 := Lib.hid (hk1.tab hf)
  have K4 := Lib.hid (hk1.alloc (.cells #[.slice t1 X.types.length t2, .slice r1 X.trans.length r2, .string (bs X.foot)] 25))
  clear hk hk1 hf x0 x1 x2
  obtain ⟨⟨x0, x1, x2⟩, _, _, _⟩ := row3 (K4.out.at 1 rfl)
  go_wp2_with fail
  refine (CP.out _ (HA.out.keep K4.out.below) (HL.out.keep K4.out.below)).mono ?_
  rintro _ V3 ⟨tv, rv, rfl, hk, hf⟩
  have hk1 := K4.out.adopt hk
  obtain ⟨u1, u2, rfl⟩ : ∃ a c, tv = .slice a X.types.length c := own_slice (hk1.row 1 rfl)
  obtain ⟨q1, q2, rfl⟩ : ∃ a c, rv = .slice a X.trans.length c := own_slice (hk1.row 0 rfl)
  have HT2 := Lib.hid (hk1.tab hf)
  have HT3 := Lib.hid (show TabV V3 (.slice t1 X.types.length t2) (.slice r1 X.trans.length r2) (bs X.foot) X from ⟨LcV.own (hk1.row 3 rfl) rfl, TrV.own (hk1.row 2 rfl) rfl, rfl, hf.lcs, hf.trs⟩)
  have K5 := Lib.hid (hk1.alloc (.cells #[.slice u1 X.types.length u2, .slice q1 X.trans.length q2, .string (bs X.foot)] 25))
  clear hk hk1 hf x0 x1 x2
  obtain ⟨⟨x0, x1, x2⟩, _, _, _⟩ := row3 (K5.out.at 1 rfl)
  have hz := K5.out.lt 1 rfl
  have HB5 := Lib.hid ((Below.refl V3.heap.size V3).alloc (Nat.le_refl _) (.cells #[.slice u1 X.types.length u2, .slice q1 X.trans.length q2, .string (bs X.foot)] 25))
  go_wp2_with fail
  refine (CS.out _ _ _ _ _ (HT3.out.keep HB5.out) (HT2.out.keep HB5.out)).mono ?_
  rintro _ V4 ⟨rfl, hb⟩
  have K6 := Lib.hid (K5.out.keep hb)
  clear hb x0 x1 x2
  go_wp2_with fail
  refine (CW.out _ (HE.out.keep K6.out.below)).mono ?_
  rintro _ V5 ⟨rfl, hb⟩
  have K7 := Lib.hid (K6.out.keep hb)
  clear hb
  go_wp2_with fail
  go_ret
  exact ⟨rfl, K7.out.below⟩
end Go.Proofs.YtlaplgaccjmbhaaGreatDoor.Px
namespace Go.Proofs.YtlaplgaccjmbhaaGreatDoor.Px
open Go.RowKit
open Civ Tb

theorem tableMakes_walk (first : Lc) (hF : Lc.Fit first) (at' : List Int) (av : Value) {W : World} (hA : IsV W .i64 av at') (hfa : ∀ t ∈ at', (Lit.int .i64 t).wf = true) (l : List Lc) (lv : Value) (hL : LcV W lv l) (hfl : ∀ x ∈ l, Lc.Fit x) (hnil : ∀ c, lv = .slice none l.length c → c = 0) (s : ByteArray) (hs : s.size ≤ maxLen) (hE : EnvAt W) :
    Calls Tryz.prog 9 #[first.val, av, lv, .string s] W fun e w' => e = .returned (.bool true) ∧ Below W.heap.size W w' :=
  tableMakes_cells first at' l av lv s W hA hL hnil hF hfl hfa hs hE
end Go.Proofs.YtlaplgaccjmbhaaGreatDoor.Px
namespace Go.Proofs.YtlaplgaccjmbhaaGreatDoor
open Go.ChangeShapes Go.WideShapes Go.ChangeAt Go.RowKit
open Go.ChangeMaps (open_string)

namespace tableMakes
theorem own : ownKnob Tryz.prog.godebug = none := by kernel_rfl
set_option maxRecDepth 100000 in
theorem lifted (os : Os) (started : os.Started) (H : Type) (enc : TypeId × Value → H) :
    ReturnsInHanded {} Tryz.checked os 9 .any (fun w args => (Rows.tableMakesSpec.pre enc Tryz.prog Tryz.f9 Rows.tableMakesRow.domain false w args ∧ laidMetH Tryz.prog Rows.tableMakesRow.laid w) ∧ sizedMet enc Tryz.prog Tryz.f9 (OpenSpec.ofChange Rows.tableMakesSpec) false w args)
      (Rows.tableMakesSpec.post enc Tryz.prog Tryz.f9 false true false false) := by
  refine returnsInHanded_of_change_and (C := Tryz.checked) (X := fun w _ => laidMetH Tryz.prog Rows.tableMakesRow.laid w) (fun _ _ _ hh h => h.of_heap hh) own started (by kernel_rfl) Tryz.func9
    (ChangeSpec.witness_shaped (enc := enc) (C := Tryz.checked) (os := os) (X := fun w _ => laidMetH Tryz.prog Rows.tableMakesRow.laid w) false ((World.doorLaid Tryz.prog 4000 os).layVars Tryz.prog [("unicode/utf8.first", Rows.laid_unicode_utf8_first)]) #[.agg #[.int .i64 0, .bool false, .string ByteArray.empty], .slice none 0 0, .slice none 0 0, .string ByteArray.empty] 8 (door_os os)
      (World.shaped_of_ZipB (by kernel_rfl) (by kernel_rfl)) (by kernel_rfl) (by kernel_rfl) (by kernel_rfl) (door_met os _)) ?_
  intro W base args ds gs before hval0 hW _ _ hL _
  have hval : ∀ (j : Nat) t v, Tryz.f9.params[j]? = some t → args[j]? = some v → Value.okWide Tryz.prog W .any base t v := hval0
  have hEnv : Px.EnvAt W := Px.env_of hL
  have hW' := hW
  obtain ⟨p, q, hA0, hV, rfl, _, _⟩ := hW
  have hA : DataW.TrodAll enc Tryz.prog W 0 (fun _ => true) true Tryz.f9.params.toList args.toList ds p := hA0
  rw [Tryz.params9] at hA hval
  obtain ⟨v0, vs0, d0, ds0, p0, q0, hargs, rfl, rfl, h0, r0⟩ := trodAll_cons hA
  obtain ⟨v1, vs1, d1, ds1, p1, q1, rfl, rfl, rfl, h1, r1⟩ := trodAll_cons r0
  obtain ⟨v2, vs2, d2, ds2, p2, q2, rfl, rfl, rfl, h2, r2⟩ := trodAll_cons r1
  obtain ⟨v3, vs3, d3, ds3, p3, q3, rfl, rfl, rfl, h3, r3⟩ := trodAll_cons r2
  obtain ⟨rfl, rfl, rfl⟩ := trodAll_nil r3
  obtain rfl : args = #[v0, v1, v2, v3] := by cases args; simp_all
  obtain ⟨rfl, rfl⟩ := trodVars_none hV
  obtain ⟨x0, rfl, hx0⟩ := Px.open_lc (hval 0 28 v0 rfl rfl) h0
  obtain ⟨x1, hx1, hf1⟩ := Px.open_i64s (hval 1 42 v1 rfl rfl) h1
  obtain ⟨x2, hx2, hf2, hn2⟩ := Px.open_lcs_arg (hval 2 22 v2 rfl rfl) h2
  obtain ⟨s3, rfl, rfl, rfl, hs3⟩ := open_string Tryz.underlying9 (hval 3 9 v3 rfl rfl) h3
  refine (Px.tableMakes_walk x0 hx0 x1 v1 hx1 hf1 x2 v2 hx2 hf2 hn2 s3 hs3 hEnv).mono fun e W' ⟨he, hB⟩ => ?_
  subst he
  refine ⟨_, rfl, post_law (by kernel_rfl) ?_ rfl hW' rfl rfl Tryz.underlying4 hB⟩
  rw [Tryz.params9]
  intro t ht
  have hall : ([28, 42, 22, 9].all fun u => Tryz.prog.readableRec u && decide (u < Tryz.prog.types.size)) = true := by kernel_rfl
  have h1 := List.all_eq_true.1 hall t ht
  have h2 : Tryz.prog.readableRec t = true ∧ t < Tryz.prog.types.size := by simpa using h1
  exact h2
set_option maxHeartbeats 8000000 in
theorem facts : joinedFacts Tryz.pinned.checked.prog 9 Tryz.f9 Rows.tableMakesSpec Rows.tableMakesRow = true := by
  simp only [joinedFacts, Bool.and_eq_true]
  and_intros
  all_goals (as_aux_lemma => kernel_rfl)
theorem named : Tryz.pinned.checked.prog.funcNamed Rows.tableMakesRow.func = some 9 := by kernel_rfl
theorem said : Rows.TableMakesSaid :=
  OpenClaim.holds_of_wide 9 Tryz.f9 rfl rfl rfl rfl rfl rfl rfl ⟨rfl, rfl, rfl, rfl, rfl⟩ rfl rfl rfl rfl rfl named Tryz.func9 facts
    (of_decide_eq_true (by kernel_rfl)) (by unfold Func.isWrapper; first | (rw [if_pos (by decide +kernel)]; kernel_rfl) | (rw [if_neg (by decide +kernel)]; exact ⟨rfl, rfl⟩))
    (fun os started H enc _ => lifted os started H enc)
theorem plain (f : FuncId) (fn : Func) (hf : Tryz.pinned.checked.prog.funcNamed "analemma/analemmalaw40.TableMakes" = some f) (hfn : Tryz.pinned.checked.prog.funcs[f]? = some fn) :
    true = Tryz.pinned.checked.prog.looks [] ∧ ∀ (j : Nat) t, fn.params[j]? = some t → Tryz.pinned.checked.prog.wantsStandIn t = false := by
  obtain rfl : f = 9 := Option.some.inj ((show Tryz.prog.funcNamed "analemma/analemmalaw40.TableMakes" = some 9 by kernel_rfl).symm.trans hf) |>.symm
  obtain rfl : fn = Tryz.f9 := (Option.some.inj (Tryz.func9.symm.trans hfn)).symm
  refine ⟨by kernel_rfl, fun j t ht => ?_⟩
  rw [Tryz.params9] at ht
  have hm : t ∈ [28, 42, 22, 9] := by simpa using Array.mem_of_getElem? ht
  have hall : ([28, 42, 22, 9].all fun u => !Tryz.prog.wantsStandIn u) = true := by kernel_rfl
  exact (show Tryz.prog.wantsStandIn t = false by simpa using List.all_eq_true.1 hall t hm)
theorem card : Rows.TableMakesCardSaid :=
  Claim7.holds_tied_plain_at .later [] _ _ _ _ said (fun _ h => by cases h) (by kernel_rfl) (fun _ h => by cases h) tableMakes_row_tie rfl ⟨rfl, rfl⟩ (by kernel_rfl) rfl plain (by kernel_rfl)
end tableMakes
#print axioms tableMakes.card
end Go.Proofs.YtlaplgaccjmbhaaGreatDoor
