/- The law FlattenApart, walked. -/
import Derived.Test.YtnffecoohkanhaaDoorM32
import Derived.Test.YtnffecoohkanhaaDoorM26
import Derived.Deep.RegionHeld3
import Derived.Deep.DeepCutAuto
namespace Go.Proofs.YtnffecoohkanhaaDoor.Px
open Go.RowKit
open Go.Maps (Keyed)
open Lk Ld St

theorem zero_of {e : TypeId} {z : Value} {n b : Nat} (h : (Tryd.prog.info? e).map (fun i => (i.zero, i.size, i.bytes)) = some (some z, n, b)) : ∀ w, (zeroValue e).run Tryd.prog w = .ok z w := by
  obtain ⟨i, hi, hz, _, _⟩ := info_partsU h
  intro w
  simp [zeroValue, run_typeInfo w hi, hz]
set_option maxHeartbeats 8000000 in
set_option maxRecDepth 100000 in
theorem apart35_any (sv zv lv : Value) (vs zs : List Value) (Ln : List Nat) (W : World) (h : D23 W sv zv lv vs zs Ln) (hE : EnvAt W) :
    Calls Tryd.prog 6 #[.agg #[sv, zv, lv]] W fun e w' => e = .returned (.bool true) ∧ Below W.heap.size W w' := by
  obtain ⟨D, T, p, m, hp1, hp3, hm4, hD, hTn, hTf, hC⟩ := made23src_any sv zv lv vs zs Ln W h
  have CM := Lib.hid (fun (Y : World) (hB : Below W.heap.size W Y) => hC Y hB (hE.keep hB))
  obtain ⟨sa, sc, rfl, _, _⟩ := h.s.slA
  obtain ⟨za, zc, rfl, _, _⟩ := h.z.slA
  obtain ⟨la, lc, rfl, _, _⟩ := h.l.slA
  obtain ⟨vn, hvn⟩ : ∃ n, vs.length = n := ⟨_, rfl⟩
  obtain ⟨zn0, hzn0⟩ : ∃ n, zs.length = n := ⟨_, rfl⟩
  obtain ⟨ln0, hln0⟩ : ∃ n, Ln.length = n := ⟨_, rfl⟩
  rw [hvn, hzn0, hln0] at CM
  rw [hvn, hzn0, hln0]
  have HTn := Lib.hid hTn
  have HTf := Lib.hid hTf
  have HTl := Lib.hid (show T.length = p by have := congrArg List.length hTn; unfold Z23 at this; simpa using this)
  have HLl := Lib.hid (show (L23 p m Ln).length = m from L23_len)
  have HF := Lib.hid (show Few D T (L23 p m Ln) [] from ⟨by omega, by rw [HTl.out]; omega, by rw [HLl.out]; omega, by simp, fun q hq => by have := hTf q hq; omega⟩)
  have HFi := Lib.hid (fine23a (n := p) (m := m) (Ln := Ln) (by omega) hp3 hm4)
  have HSm := Lib.hid (small23 (Ln := Ln) hTn (by omega) hp3 hm4)
  have K0 := Lib.hid ((Kp.start W).allocAt W.heap.size rfl (.cells #[.slice sa vn sc, .slice za zn0 zc, .slice la ln0 lc] 54))
  obtain ⟨W1, hW1⟩ : ∃ X, W.alloc (.cells #[.slice sa vn sc, .slice za zn0 zc, .slice la ln0 lc] 54) = X := ⟨_, rfl⟩
  rw [hW1] at K0
  obtain ⟨v0, v1, v2⟩ := (row3 (K0.out.at 0 rfl)).1
  clear h hE hvn hzn0 hln0 hC hTn hTf hD
  go_enter Tryd.func6, Tryd.ntmps6
  go_upto_region 1 with fail
  try rw [hW1]
  clear hW1
  have KD := Lib.hid K0.out.drew
  go_cut [3, 4] from 12 to 15 (fun v3 v4 wx => ∃ (S U : Nat) (ra1 za1 la1 ra2 za2 la2 : Option Addr) (rc1 zc1 lc1 rc2 zc2 lc2 : Nat) (E1 E2 : List (Zq × Zo)), v3 = .pointer (some ⟨S, 0, none⟩) ∧ v4 = .pointer (some ⟨U, 0, none⟩) ∧ ZsP p T E1 ∧ ZsP p T E2 ∧ Kp [(U, .cells #[.slice ra2 D.length rc2, .slice za2 p zc2, .slice la2 m lc2, .slice none 0 0] 27 (0, 0)), (S, .cells #[.slice ra1 D.length rc1, .slice za1 p zc1, .slice la1 m lc1, .slice none 0 0] 27 (0, 0)), (W.heap.size, .cells #[.slice sa vn sc, .slice za zn0 zc, .slice la ln0 lc] 54 (0, 0))] ((⟨.slice la2 m lc2, 43, 2, m, (L23 p m Ln).flatMap kcells⟩ :: ⟨.slice za2 p zc2, 40, 2, p, (E2.map Prod.snd).flatMap zcells⟩ :: ⟨.slice ra2 D.length rc2, 36, 11, D.length, D.flatMap ruqC⟩ :: E2.reverse.map eraR) ++ ((⟨.slice la1 m lc1, 43, 2, m, (L23 p m Ln).flatMap kcells⟩ :: ⟨.slice za1 p zc1, 40, 2, p, (E1.map Prod.snd).flatMap zcells⟩ :: ⟨.slice ra1 D.length rc1, 36, 11, D.length, D.flatMap ruqC⟩ :: E1.reverse.map eraR) ++ [])) W wx)
  case first =>
    refine wp_region_noPanic ?_
    refine wp_region_held_drew (S := fun w' => w'.cell? ⟨W.heap.size, 0, none⟩ = some (.slice sa vn sc) ∧ w'.cell? ⟨W.heap.size, 1, none⟩ = some (.slice za zn0 zc) ∧ w'.cell? ⟨W.heap.size, 2, none⟩ = some (.slice la ln0 lc)) (by kernel_rfl) (row3 (KD.out.at 0 rfl)).1 (fun hHeld => ?_)
    obtain ⟨Y0, hY0⟩ : ∃ Y, W1.drew = Y := ⟨_, rfl⟩
    rw [hY0] at KD hHeld ⊢
    clear hY0
    refine wpAnyH_take (i := 0) (v := .agg #[.slice sa vn sc, .slice za zn0 zc, .slice la ln0 lc]) rfl (by kernel_rfl) (by kernel_rfl) (by kernel_rfl) (fun _ _ _ h => h) (Or.inl ⟨by rfl, ?_⟩) (by assumption) ?_
    · intro w hSw
      obtain ⟨s0, s1, s2⟩ := hSw
      go_simp
    (try simp only [Act.put, List.setIfInBounds_toArray])
    refine wpAnyH_take (i := 2) (v := .agg #[.slice sa vn sc, .slice za zn0 zc, .slice la ln0 lc]) rfl (by kernel_rfl) (by kernel_rfl) (by kernel_rfl) (fun _ _ _ h => h) (Or.inl ⟨by rfl, ?_⟩) (by assumption) ?_
    · intro w hSw
      obtain ⟨s0, s1, s2⟩ := hSw
      go_simp
    (try simp only [Act.put])
    clear hHeld
    refine wpAnyH_ready (rs := [1, 4, 5]) (by kernel_rfl) (by simp) ?_
    refine AllReadyH.cons rfl (fun K hK => ?_) ?_
    case refine_1 =>
      go_simp
      go_at_call 19
      refine (CM.out _ KD.out.below).mono ?_
      rintro e X1 ⟨rv, zv, lv, E1, rfl, hZ, hk⟩
      obtain ⟨ra1, rc1, rfl⟩ : ∃ a c, rv = .slice a D.length c := own_slice (hk.row 2 rfl)
      obtain ⟨za1, zc1, rfl⟩ : ∃ a c, zv = .slice a p c := own_slice (hk.row 1 rfl)
      obtain ⟨la1, lc1, rfl⟩ : ∃ a c, lv = .slice a m c := own_slice (hk.row 0 rfl)
      have HZ1 := Lib.hid hZ
      have K11 := Lib.hid (KD.out.adopt hk)
      clear hk hZ
      (try go_wp2_with fail)
      refine hK.out _ _ ?_ (fun hHeld => ?_)
      · exact (row3 (K11.out.at 0 rfl)).1
      clear hHeld hK K
      (try simp only [Act.put, List.setIfInBounds_toArray, List.set_cons_zero, List.set_cons_succ])
      refine wpAnyH_ready (rs := [3, 4, 5]) (by kernel_rfl) (by simp) ?_
      refine AllReadyH.cons rfl (fun K hK => ?_) ?_
      case refine_1 =>
        go_simp
        go_at_call 19
        refine (CM.out _ K11.out.below).mono ?_
        rintro e X2 ⟨rv, zv, lv, E2, rfl, hZ, hk⟩
        obtain ⟨ra2, rc2, rfl⟩ : ∃ a c, rv = .slice a D.length c := own_slice (hk.row 2 rfl)
        obtain ⟨za2, zc2, rfl⟩ : ∃ a c, zv = .slice a p c := own_slice (hk.row 1 rfl)
        obtain ⟨la2, lc2, rfl⟩ : ∃ a c, lv = .slice a m c := own_slice (hk.row 0 rfl)
        have HZ2 := Lib.hid hZ
        have K12 := Lib.hid (K11.out.adopt hk)
        clear hk hZ
        (try go_wp2_with fail)
        refine hK.out _ _ ?_ (fun hHeld => ?_)
        · exact (row3 (K12.out.at 0 rfl)).1
        clear hHeld hK K
        (try simp only [Act.put, List.setIfInBounds_toArray, List.set_cons_zero, List.set_cons_succ])
        refine wpAnyH_ready (rs := [4, 5]) (by kernel_rfl) (by simp) ?_
        refine AllReadyH.cons rfl (fun K hK => ?_) ?_
        case refine_1 =>
          have K13 := Lib.hid (K12.out.alloc (.cells #[.slice none 0 0, .slice none 0 0, .slice none 0 0, .slice none 0 0] 27))
          go_simp
          refine hK.out _ _ ?_ (fun hHeld => ?_)
          · exact (row3 (K13.out.at 1 rfl)).1
          clear hHeld hK K
          (try simp only [Act.put, List.setIfInBounds_toArray, List.set_cons_zero, List.set_cons_succ])
          obtain ⟨S, hS⟩ : ∃ b, X2.heap.size = b := ⟨_, rfl⟩
          obtain ⟨Y13, hY⟩ : ∃ Y, X2.alloc (.cells #[.slice none 0 0, .slice none 0 0, .slice none 0 0, .slice none 0 0] 27) = Y := ⟨_, rfl⟩
          rw [hY] at K13 ⊢
          rw [hS] at K13 ⊢
          clear hY hS
          refine wpAnyH_ready (rs := [5]) (by kernel_rfl) (by simp) ?_
          refine AllReadyH.cons rfl (fun K hK => ?_) ?_
          case refine_1 =>
            have K14 := Lib.hid (K13.out.alloc (.cells #[.slice none 0 0, .slice none 0 0, .slice none 0 0, .slice none 0 0] 27))
            go_simp
            refine hK.out _ _ ?_ (fun hHeld => ?_)
            · exact (row3 (K14.out.at 2 rfl)).1
            clear hHeld hK K
            (try simp only [Act.put, List.setIfInBounds_toArray, List.set_cons_zero, List.set_cons_succ])
            obtain ⟨U, hU⟩ : ∃ b, Y13.heap.size = b := ⟨_, rfl⟩
            obtain ⟨Y14, hY⟩ : ∃ Y, Y13.alloc (.cells #[.slice none 0 0, .slice none 0 0, .slice none 0 0, .slice none 0 0] 27) = Y := ⟨_, rfl⟩
            rw [hY] at K14 ⊢
            rw [hU] at K14 ⊢
            clear hY hU
            refine wpAnyH_ready (rs := [6]) (by kernel_rfl) (by simp) ?_
            refine AllReadyH.cons rfl (fun K hK => ?_) ?_
            case refine_1 =>
              obtain ⟨s0, s1, s2, s3⟩ := row4 (K14.out.at 1 rfl)
              have f0 := free_at (K14.out.at 1 rfl) 0
              have f1 := free_at (K14.out.at 1 rfl) 1
              have f2 := free_at (K14.out.at 1 rfl) 2
              have f3 := free_at (K14.out.at 1 rfl) 3
              have K15 := Lib.hid ((((K14.out.set 1 rfl 0 (.slice ra1 D.length rc1) rfl).set 1 rfl 1 (.slice za1 p zc1) rfl).set 1 rfl 2 (.slice la1 m lc1) rfl).set 1 rfl 3 (.slice none 0 0) rfl)
              go_simp
              clear s0 s1 s2 s3 f0 f1 f2 f3
              refine hK.out _ _ ?_ (fun hHeld => ?_)
              · exact (row3 (K15.out.at 2 rfl)).1
              clear hHeld hK K
              (try simp only [Act.put, List.setIfInBounds_toArray, List.set_cons_zero, List.set_cons_succ])
              obtain ⟨Y15, hY⟩ : ∃ Y, ((((Y14.setCell ⟨S, 0, none⟩ (.slice ra1 D.length rc1)).setCell ⟨S, 1, none⟩ (.slice za1 p zc1)).setCell ⟨S, 2, none⟩ (.slice la1 m lc1)).setCell ⟨S, 3, none⟩ (.slice none 0 0)) = Y := ⟨_, rfl⟩
              rw [hY] at K15 ⊢
              clear hY
              refine wpAnyH_ready (rs := [7]) (by kernel_rfl) (by simp) ?_
              refine AllReadyH.cons rfl (fun K hK => ?_) ?_
              case refine_1 =>
                obtain ⟨s0, s1, s2, s3⟩ := row4 (K15.out.at 0 rfl)
                have f0 := free_at (K15.out.at 0 rfl) 0
                have f1 := free_at (K15.out.at 0 rfl) 1
                have f2 := free_at (K15.out.at 0 rfl) 2
                have f3 := free_at (K15.out.at 0 rfl) 3
                have K16 := Lib.hid ((((K15.out.set 0 rfl 0 (.slice ra2 D.length rc2) rfl).set 0 rfl 1 (.slice za2 p zc2) rfl).set 0 rfl 2 (.slice la2 m lc2) rfl).set 0 rfl 3 (.slice none 0 0) rfl)
                go_simp
                clear s0 s1 s2 s3 f0 f1 f2 f3
                refine hK.out _ _ ?_ (fun hHeld => ?_)
                · exact (row3 (K16.out.at 2 rfl)).1
                clear hHeld hK K
                (try simp only [Act.put, List.setIfInBounds_toArray, List.set_cons_zero, List.set_cons_succ])
                obtain ⟨Y16, hY⟩ : ∃ Y, ((((Y15.setCell ⟨U, 0, none⟩ (.slice ra2 D.length rc2)).setCell ⟨U, 1, none⟩ (.slice za2 p zc2)).setCell ⟨U, 2, none⟩ (.slice la2 m lc2)).setCell ⟨U, 3, none⟩ (.slice none 0 0)) = Y := ⟨_, rfl⟩
                rw [hY] at K16 ⊢
                clear hY
                refine wpAnyH_done (by kernel_rfl) ?_ _
                refine NoPanic.normal ?_
                (try go_wp2_with fail)
                go_meet
                exact ⟨S, U, _, _, _, _, _, _, _, _, _, _, _, _, E1, E2, rfl, rfl, HZ1.out, HZ2.out, K16.out.permL (List.Perm.refl _)⟩
              exact AllReadyH.nil
            exact AllReadyH.nil
          exact AllReadyH.nil
        refine AllReadyH.cons rfl (fun K hK => ?_) ?_
        case refine_1 =>
          have K17 := Lib.hid (K12.out.alloc (.cells #[.slice none 0 0, .slice none 0 0, .slice none 0 0, .slice none 0 0] 27))
          go_simp
          refine hK.out _ _ ?_ (fun hHeld => ?_)
          · exact (row3 (K17.out.at 1 rfl)).1
          clear hHeld hK K
          (try simp only [Act.put, List.setIfInBounds_toArray, List.set_cons_zero, List.set_cons_succ])
          obtain ⟨U, hU⟩ : ∃ b, X2.heap.size = b := ⟨_, rfl⟩
          obtain ⟨Y17, hY⟩ : ∃ Y, X2.alloc (.cells #[.slice none 0 0, .slice none 0 0, .slice none 0 0, .slice none 0 0] 27) = Y := ⟨_, rfl⟩
          rw [hY] at K17 ⊢
          rw [hU] at K17 ⊢
          clear hY hU
          refine wpAnyH_ready (rs := [4]) (by kernel_rfl) (by simp) ?_
          refine AllReadyH.cons rfl (fun K hK => ?_) ?_
          case refine_1 =>
            have K18 := Lib.hid (K17.out.alloc (.cells #[.slice none 0 0, .slice none 0 0, .slice none 0 0, .slice none 0 0] 27))
            go_simp
            refine hK.out _ _ ?_ (fun hHeld => ?_)
            · exact (row3 (K18.out.at 2 rfl)).1
            clear hHeld hK K
            (try simp only [Act.put, List.setIfInBounds_toArray, List.set_cons_zero, List.set_cons_succ])
            obtain ⟨S, hS⟩ : ∃ b, Y17.heap.size = b := ⟨_, rfl⟩
            obtain ⟨Y18, hY⟩ : ∃ Y, Y17.alloc (.cells #[.slice none 0 0, .slice none 0 0, .slice none 0 0, .slice none 0 0] 27) = Y := ⟨_, rfl⟩
            rw [hY] at K18 ⊢
            rw [hS] at K18 ⊢
            clear hY hS
            refine wpAnyH_ready (rs := [6]) (by kernel_rfl) (by simp) ?_
            refine AllReadyH.cons rfl (fun K hK => ?_) ?_
            case refine_1 =>
              obtain ⟨s0, s1, s2, s3⟩ := row4 (K18.out.at 0 rfl)
              have f0 := free_at (K18.out.at 0 rfl) 0
              have f1 := free_at (K18.out.at 0 rfl) 1
              have f2 := free_at (K18.out.at 0 rfl) 2
              have f3 := free_at (K18.out.at 0 rfl) 3
              have K19 := Lib.hid ((((K18.out.set 0 rfl 0 (.slice ra1 D.length rc1) rfl).set 0 rfl 1 (.slice za1 p zc1) rfl).set 0 rfl 2 (.slice la1 m lc1) rfl).set 0 rfl 3 (.slice none 0 0) rfl)
              go_simp
              clear s0 s1 s2 s3 f0 f1 f2 f3
              refine hK.out _ _ ?_ (fun hHeld => ?_)
              · exact (row3 (K19.out.at 2 rfl)).1
              clear hHeld hK K
              (try simp only [Act.put, List.setIfInBounds_toArray, List.set_cons_zero, List.set_cons_succ])
              obtain ⟨Y19, hY⟩ : ∃ Y, ((((Y18.setCell ⟨S, 0, none⟩ (.slice ra1 D.length rc1)).setCell ⟨S, 1, none⟩ (.slice za1 p zc1)).setCell ⟨S, 2, none⟩ (.slice la1 m lc1)).setCell ⟨S, 3, none⟩ (.slice none 0 0)) = Y := ⟨_, rfl⟩
              rw [hY] at K19 ⊢
              clear hY
              refine wpAnyH_ready (rs := [7]) (by kernel_rfl) (by simp) ?_
              refine AllReadyH.cons rfl (fun K hK => ?_) ?_
              case refine_1 =>
                obtain ⟨s0, s1, s2, s3⟩ := row4 (K19.out.at 1 rfl)
                have f0 := free_at (K19.out.at 1 rfl) 0
                have f1 := free_at (K19.out.at 1 rfl) 1
                have f2 := free_at (K19.out.at 1 rfl) 2
                have f3 := free_at (K19.out.at 1 rfl) 3
                have K20 := Lib.hid ((((K19.out.set 1 rfl 0 (.slice ra2 D.length rc2) rfl).set 1 rfl 1 (.slice za2 p zc2) rfl).set 1 rfl 2 (.slice la2 m lc2) rfl).set 1 rfl 3 (.slice none 0 0) rfl)
                go_simp
                clear s0 s1 s2 s3 f0 f1 f2 f3
                refine hK.out _ _ ?_ (fun hHeld => ?_)
                · exact (row3 (K20.out.at 2 rfl)).1
                clear hHeld hK K
                (try simp only [Act.put, List.setIfInBounds_toArray, List.set_cons_zero, List.set_cons_succ])
                obtain ⟨Y20, hY⟩ : ∃ Y, ((((Y19.setCell ⟨U, 0, none⟩ (.slice ra2 D.length rc2)).setCell ⟨U, 1, none⟩ (.slice za2 p zc2)).setCell ⟨U, 2, none⟩ (.slice la2 m lc2)).setCell ⟨U, 3, none⟩ (.slice none 0 0)) = Y := ⟨_, rfl⟩
                rw [hY] at K20 ⊢
                clear hY
                refine wpAnyH_done (by kernel_rfl) ?_ _
                refine NoPanic.normal ?_
                (try go_wp2_with fail)
                go_meet
                exact ⟨S, U, _, _, _, _, _, _, _, _, _, _, _, _, E1, E2, rfl, rfl, HZ1.out, HZ2.out, K20.out.permL (List.Perm.swap _ _ _)⟩
              exact AllReadyH.nil
            exact AllReadyH.nil
          exact AllReadyH.nil
        exact AllReadyH.nil
      refine AllReadyH.cons rfl (fun K hK => ?_) ?_
      case refine_1 =>
        have K21 := Lib.hid (K11.out.alloc (.cells #[.slice none 0 0, .slice none 0 0, .slice none 0 0, .slice none 0 0] 27))
        go_simp
        refine hK.out _ _ ?_ (fun hHeld => ?_)
        · exact (row3 (K21.out.at 1 rfl)).1
        clear hHeld hK K
        (try simp only [Act.put, List.setIfInBounds_toArray, List.set_cons_zero, List.set_cons_succ])
        obtain ⟨S, hS⟩ : ∃ b, X1.heap.size = b := ⟨_, rfl⟩
        obtain ⟨Y21, hY⟩ : ∃ Y, X1.alloc (.cells #[.slice none 0 0, .slice none 0 0, .slice none 0 0, .slice none 0 0] 27) = Y := ⟨_, rfl⟩
        rw [hY] at K21 ⊢
        rw [hS] at K21 ⊢
        clear hY hS
        refine wpAnyH_ready (rs := [3, 5]) (by kernel_rfl) (by simp) ?_
        refine AllReadyH.cons rfl (fun K hK => ?_) ?_
        case refine_1 =>
          go_simp
          go_at_call 19
          refine (CM.out _ K21.out.below).mono ?_
          rintro e X2 ⟨rv, zv, lv, E2, rfl, hZ, hk⟩
          obtain ⟨ra2, rc2, rfl⟩ : ∃ a c, rv = .slice a D.length c := own_slice (hk.row 2 rfl)
          obtain ⟨za2, zc2, rfl⟩ : ∃ a c, zv = .slice a p c := own_slice (hk.row 1 rfl)
          obtain ⟨la2, lc2, rfl⟩ : ∃ a c, lv = .slice a m c := own_slice (hk.row 0 rfl)
          have HZ2 := Lib.hid hZ
          have K22 := Lib.hid (K21.out.adopt hk)
          clear hk hZ
          (try go_wp2_with fail)
          refine hK.out _ _ ?_ (fun hHeld => ?_)
          · exact (row3 (K22.out.at 1 rfl)).1
          clear hHeld hK K
          (try simp only [Act.put, List.setIfInBounds_toArray, List.set_cons_zero, List.set_cons_succ])
          refine wpAnyH_ready (rs := [5]) (by kernel_rfl) (by simp) ?_
          refine AllReadyH.cons rfl (fun K hK => ?_) ?_
          case refine_1 =>
            have K23 := Lib.hid (K22.out.alloc (.cells #[.slice none 0 0, .slice none 0 0, .slice none 0 0, .slice none 0 0] 27))
            go_simp
            refine hK.out _ _ ?_ (fun hHeld => ?_)
            · exact (row3 (K23.out.at 2 rfl)).1
            clear hHeld hK K
            (try simp only [Act.put, List.setIfInBounds_toArray, List.set_cons_zero, List.set_cons_succ])
            obtain ⟨U, hU⟩ : ∃ b, X2.heap.size = b := ⟨_, rfl⟩
            obtain ⟨Y23, hY⟩ : ∃ Y, X2.alloc (.cells #[.slice none 0 0, .slice none 0 0, .slice none 0 0, .slice none 0 0] 27) = Y := ⟨_, rfl⟩
            rw [hY] at K23 ⊢
            rw [hU] at K23 ⊢
            clear hY hU
            refine wpAnyH_ready (rs := [6]) (by kernel_rfl) (by simp) ?_
            refine AllReadyH.cons rfl (fun K hK => ?_) ?_
            case refine_1 =>
              obtain ⟨s0, s1, s2, s3⟩ := row4 (K23.out.at 1 rfl)
              have f0 := free_at (K23.out.at 1 rfl) 0
              have f1 := free_at (K23.out.at 1 rfl) 1
              have f2 := free_at (K23.out.at 1 rfl) 2
              have f3 := free_at (K23.out.at 1 rfl) 3
              have K24 := Lib.hid ((((K23.out.set 1 rfl 0 (.slice ra1 D.length rc1) rfl).set 1 rfl 1 (.slice za1 p zc1) rfl).set 1 rfl 2 (.slice la1 m lc1) rfl).set 1 rfl 3 (.slice none 0 0) rfl)
              go_simp
              clear s0 s1 s2 s3 f0 f1 f2 f3
              refine hK.out _ _ ?_ (fun hHeld => ?_)
              · exact (row3 (K24.out.at 2 rfl)).1
              clear hHeld hK K
              (try simp only [Act.put, List.setIfInBounds_toArray, List.set_cons_zero, List.set_cons_succ])
              obtain ⟨Y24, hY⟩ : ∃ Y, ((((Y23.setCell ⟨S, 0, none⟩ (.slice ra1 D.length rc1)).setCell ⟨S, 1, none⟩ (.slice za1 p zc1)).setCell ⟨S, 2, none⟩ (.slice la1 m lc1)).setCell ⟨S, 3, none⟩ (.slice none 0 0)) = Y := ⟨_, rfl⟩
              rw [hY] at K24 ⊢
              clear hY
              refine wpAnyH_ready (rs := [7]) (by kernel_rfl) (by simp) ?_
              refine AllReadyH.cons rfl (fun K hK => ?_) ?_
              case refine_1 =>
                obtain ⟨s0, s1, s2, s3⟩ := row4 (K24.out.at 0 rfl)
                have f0 := free_at (K24.out.at 0 rfl) 0
                have f1 := free_at (K24.out.at 0 rfl) 1
                have f2 := free_at (K24.out.at 0 rfl) 2
                have f3 := free_at (K24.out.at 0 rfl) 3
                have K25 := Lib.hid ((((K24.out.set 0 rfl 0 (.slice ra2 D.length rc2) rfl).set 0 rfl 1 (.slice za2 p zc2) rfl).set 0 rfl 2 (.slice la2 m lc2) rfl).set 0 rfl 3 (.slice none 0 0) rfl)
                go_simp
                clear s0 s1 s2 s3 f0 f1 f2 f3
                refine hK.out _ _ ?_ (fun hHeld => ?_)
                · exact (row3 (K25.out.at 2 rfl)).1
                clear hHeld hK K
                (try simp only [Act.put, List.setIfInBounds_toArray, List.set_cons_zero, List.set_cons_succ])
                obtain ⟨Y25, hY⟩ : ∃ Y, ((((Y24.setCell ⟨U, 0, none⟩ (.slice ra2 D.length rc2)).setCell ⟨U, 1, none⟩ (.slice za2 p zc2)).setCell ⟨U, 2, none⟩ (.slice la2 m lc2)).setCell ⟨U, 3, none⟩ (.slice none 0 0)) = Y := ⟨_, rfl⟩
                rw [hY] at K25 ⊢
                clear hY
                refine wpAnyH_done (by kernel_rfl) ?_ _
                refine NoPanic.normal ?_
                (try go_wp2_with fail)
                go_meet
                exact ⟨S, U, _, _, _, _, _, _, _, _, _, _, _, _, E1, E2, rfl, rfl, HZ1.out, HZ2.out, K25.out.permL (List.Perm.refl _)⟩
              exact AllReadyH.nil
            exact AllReadyH.nil
          exact AllReadyH.nil
        refine AllReadyH.cons rfl (fun K hK => ?_) ?_
        case refine_1 =>
          have K26 := Lib.hid (K21.out.alloc (.cells #[.slice none 0 0, .slice none 0 0, .slice none 0 0, .slice none 0 0] 27))
          go_simp
          refine hK.out _ _ ?_ (fun hHeld => ?_)
          · exact (row3 (K26.out.at 2 rfl)).1
          clear hHeld hK K
          (try simp only [Act.put, List.setIfInBounds_toArray, List.set_cons_zero, List.set_cons_succ])
          obtain ⟨U, hU⟩ : ∃ b, Y21.heap.size = b := ⟨_, rfl⟩
          obtain ⟨Y26, hY⟩ : ∃ Y, Y21.alloc (.cells #[.slice none 0 0, .slice none 0 0, .slice none 0 0, .slice none 0 0] 27) = Y := ⟨_, rfl⟩
          rw [hY] at K26 ⊢
          rw [hU] at K26 ⊢
          clear hY hU
          refine wpAnyH_ready (rs := [3]) (by kernel_rfl) (by simp) ?_
          refine AllReadyH.cons rfl (fun K hK => ?_) ?_
          case refine_1 =>
            go_simp
            go_at_call 19
            refine (CM.out _ K26.out.below).mono ?_
            rintro e X2 ⟨rv, zv, lv, E2, rfl, hZ, hk⟩
            obtain ⟨ra2, rc2, rfl⟩ : ∃ a c, rv = .slice a D.length c := own_slice (hk.row 2 rfl)
            obtain ⟨za2, zc2, rfl⟩ : ∃ a c, zv = .slice a p c := own_slice (hk.row 1 rfl)
            obtain ⟨la2, lc2, rfl⟩ : ∃ a c, lv = .slice a m c := own_slice (hk.row 0 rfl)
            have HZ2 := Lib.hid hZ
            have K27 := Lib.hid (K26.out.adopt hk)
            clear hk hZ
            (try go_wp2_with fail)
            refine hK.out _ _ ?_ (fun hHeld => ?_)
            · exact (row3 (K27.out.at 2 rfl)).1
            clear hHeld hK K
            (try simp only [Act.put, List.setIfInBounds_toArray, List.set_cons_zero, List.set_cons_succ])
            refine wpAnyH_ready (rs := [6]) (by kernel_rfl) (by simp) ?_
            refine AllReadyH.cons rfl (fun K hK => ?_) ?_
            case refine_1 =>
              obtain ⟨s0, s1, s2, s3⟩ := row4 (K27.out.at 1 rfl)
              have f0 := free_at (K27.out.at 1 rfl) 0
              have f1 := free_at (K27.out.at 1 rfl) 1
              have f2 := free_at (K27.out.at 1 rfl) 2
              have f3 := free_at (K27.out.at 1 rfl) 3
              have K28 := Lib.hid ((((K27.out.set 1 rfl 0 (.slice ra1 D.length rc1) rfl).set 1 rfl 1 (.slice za1 p zc1) rfl).set 1 rfl 2 (.slice la1 m lc1) rfl).set 1 rfl 3 (.slice none 0 0) rfl)
              go_simp
              clear s0 s1 s2 s3 f0 f1 f2 f3
              refine hK.out _ _ ?_ (fun hHeld => ?_)
              · exact (row3 (K28.out.at 2 rfl)).1
              clear hHeld hK K
              (try simp only [Act.put, List.setIfInBounds_toArray, List.set_cons_zero, List.set_cons_succ])
              obtain ⟨Y28, hY⟩ : ∃ Y, ((((X2.setCell ⟨S, 0, none⟩ (.slice ra1 D.length rc1)).setCell ⟨S, 1, none⟩ (.slice za1 p zc1)).setCell ⟨S, 2, none⟩ (.slice la1 m lc1)).setCell ⟨S, 3, none⟩ (.slice none 0 0)) = Y := ⟨_, rfl⟩
              rw [hY] at K28 ⊢
              clear hY
              refine wpAnyH_ready (rs := [7]) (by kernel_rfl) (by simp) ?_
              refine AllReadyH.cons rfl (fun K hK => ?_) ?_
              case refine_1 =>
                obtain ⟨s0, s1, s2, s3⟩ := row4 (K28.out.at 0 rfl)
                have f0 := free_at (K28.out.at 0 rfl) 0
                have f1 := free_at (K28.out.at 0 rfl) 1
                have f2 := free_at (K28.out.at 0 rfl) 2
                have f3 := free_at (K28.out.at 0 rfl) 3
                have K29 := Lib.hid ((((K28.out.set 0 rfl 0 (.slice ra2 D.length rc2) rfl).set 0 rfl 1 (.slice za2 p zc2) rfl).set 0 rfl 2 (.slice la2 m lc2) rfl).set 0 rfl 3 (.slice none 0 0) rfl)
                go_simp
                clear s0 s1 s2 s3 f0 f1 f2 f3
                refine hK.out _ _ ?_ (fun hHeld => ?_)
                · exact (row3 (K29.out.at 2 rfl)).1
                clear hHeld hK K
                (try simp only [Act.put, List.setIfInBounds_toArray, List.set_cons_zero, List.set_cons_succ])
                obtain ⟨Y29, hY⟩ : ∃ Y, ((((Y28.setCell ⟨U, 0, none⟩ (.slice ra2 D.length rc2)).setCell ⟨U, 1, none⟩ (.slice za2 p zc2)).setCell ⟨U, 2, none⟩ (.slice la2 m lc2)).setCell ⟨U, 3, none⟩ (.slice none 0 0)) = Y := ⟨_, rfl⟩
                rw [hY] at K29 ⊢
                clear hY
                refine wpAnyH_done (by kernel_rfl) ?_ _
                refine NoPanic.normal ?_
                (try go_wp2_with fail)
                go_meet
                exact ⟨S, U, _, _, _, _, _, _, _, _, _, _, _, _, E1, E2, rfl, rfl, HZ1.out, HZ2.out, K29.out.permL (List.Perm.refl _)⟩
              exact AllReadyH.nil
            exact AllReadyH.nil
          exact AllReadyH.nil
        exact AllReadyH.nil
      refine AllReadyH.cons rfl (fun K hK => ?_) ?_
      case refine_1 =>
        have K30 := Lib.hid (K11.out.alloc (.cells #[.slice none 0 0, .slice none 0 0, .slice none 0 0, .slice none 0 0] 27))
        go_simp
        refine hK.out _ _ ?_ (fun hHeld => ?_)
        · exact (row3 (K30.out.at 1 rfl)).1
        clear hHeld hK K
        (try simp only [Act.put, List.setIfInBounds_toArray, List.set_cons_zero, List.set_cons_succ])
        obtain ⟨U, hU⟩ : ∃ b, X1.heap.size = b := ⟨_, rfl⟩
        obtain ⟨Y30, hY⟩ : ∃ Y, X1.alloc (.cells #[.slice none 0 0, .slice none 0 0, .slice none 0 0, .slice none 0 0] 27) = Y := ⟨_, rfl⟩
        rw [hY] at K30 ⊢
        rw [hU] at K30 ⊢
        clear hY hU
        refine wpAnyH_ready (rs := [3, 4]) (by kernel_rfl) (by simp) ?_
        refine AllReadyH.cons rfl (fun K hK => ?_) ?_
        case refine_1 =>
          go_simp
          go_at_call 19
          refine (CM.out _ K30.out.below).mono ?_
          rintro e X2 ⟨rv, zv, lv, E2, rfl, hZ, hk⟩
          obtain ⟨ra2, rc2, rfl⟩ : ∃ a c, rv = .slice a D.length c := own_slice (hk.row 2 rfl)
          obtain ⟨za2, zc2, rfl⟩ : ∃ a c, zv = .slice a p c := own_slice (hk.row 1 rfl)
          obtain ⟨la2, lc2, rfl⟩ : ∃ a c, lv = .slice a m c := own_slice (hk.row 0 rfl)
          have HZ2 := Lib.hid hZ
          have K31 := Lib.hid (K30.out.adopt hk)
          clear hk hZ
          (try go_wp2_with fail)
          refine hK.out _ _ ?_ (fun hHeld => ?_)
          · exact (row3 (K31.out.at 1 rfl)).1
          clear hHeld hK K
          (try simp only [Act.put, List.setIfInBounds_toArray, List.set_cons_zero, List.set_cons_succ])
          refine wpAnyH_ready (rs := [4]) (by kernel_rfl) (by simp) ?_
          refine AllReadyH.cons rfl (fun K hK => ?_) ?_
          case refine_1 =>
            have K32 := Lib.hid (K31.out.alloc (.cells #[.slice none 0 0, .slice none 0 0, .slice none 0 0, .slice none 0 0] 27))
            go_simp
            refine hK.out _ _ ?_ (fun hHeld => ?_)
            · exact (row3 (K32.out.at 2 rfl)).1
            clear hHeld hK K
            (try simp only [Act.put, List.setIfInBounds_toArray, List.set_cons_zero, List.set_cons_succ])
            obtain ⟨S, hS⟩ : ∃ b, X2.heap.size = b := ⟨_, rfl⟩
            obtain ⟨Y32, hY⟩ : ∃ Y, X2.alloc (.cells #[.slice none 0 0, .slice none 0 0, .slice none 0 0, .slice none 0 0] 27) = Y := ⟨_, rfl⟩
            rw [hY] at K32 ⊢
            rw [hS] at K32 ⊢
            clear hY hS
            refine wpAnyH_ready (rs := [6]) (by kernel_rfl) (by simp) ?_
            refine AllReadyH.cons rfl (fun K hK => ?_) ?_
            case refine_1 =>
              obtain ⟨s0, s1, s2, s3⟩ := row4 (K32.out.at 0 rfl)
              have f0 := free_at (K32.out.at 0 rfl) 0
              have f1 := free_at (K32.out.at 0 rfl) 1
              have f2 := free_at (K32.out.at 0 rfl) 2
              have f3 := free_at (K32.out.at 0 rfl) 3
              have K33 := Lib.hid ((((K32.out.set 0 rfl 0 (.slice ra1 D.length rc1) rfl).set 0 rfl 1 (.slice za1 p zc1) rfl).set 0 rfl 2 (.slice la1 m lc1) rfl).set 0 rfl 3 (.slice none 0 0) rfl)
              go_simp
              clear s0 s1 s2 s3 f0 f1 f2 f3
              refine hK.out _ _ ?_ (fun hHeld => ?_)
              · exact (row3 (K33.out.at 2 rfl)).1
              clear hHeld hK K
              (try simp only [Act.put, List.setIfInBounds_toArray, List.set_cons_zero, List.set_cons_succ])
              obtain ⟨Y33, hY⟩ : ∃ Y, ((((Y32.setCell ⟨S, 0, none⟩ (.slice ra1 D.length rc1)).setCell ⟨S, 1, none⟩ (.slice za1 p zc1)).setCell ⟨S, 2, none⟩ (.slice la1 m lc1)).setCell ⟨S, 3, none⟩ (.slice none 0 0)) = Y := ⟨_, rfl⟩
              rw [hY] at K33 ⊢
              clear hY
              refine wpAnyH_ready (rs := [7]) (by kernel_rfl) (by simp) ?_
              refine AllReadyH.cons rfl (fun K hK => ?_) ?_
              case refine_1 =>
                obtain ⟨s0, s1, s2, s3⟩ := row4 (K33.out.at 1 rfl)
                have f0 := free_at (K33.out.at 1 rfl) 0
                have f1 := free_at (K33.out.at 1 rfl) 1
                have f2 := free_at (K33.out.at 1 rfl) 2
                have f3 := free_at (K33.out.at 1 rfl) 3
                have K34 := Lib.hid ((((K33.out.set 1 rfl 0 (.slice ra2 D.length rc2) rfl).set 1 rfl 1 (.slice za2 p zc2) rfl).set 1 rfl 2 (.slice la2 m lc2) rfl).set 1 rfl 3 (.slice none 0 0) rfl)
                go_simp
                clear s0 s1 s2 s3 f0 f1 f2 f3
                refine hK.out _ _ ?_ (fun hHeld => ?_)
                · exact (row3 (K34.out.at 2 rfl)).1
                clear hHeld hK K
                (try simp only [Act.put, List.setIfInBounds_toArray, List.set_cons_zero, List.set_cons_succ])
                obtain ⟨Y34, hY⟩ : ∃ Y, ((((Y33.setCell ⟨U, 0, none⟩ (.slice ra2 D.length rc2)).setCell ⟨U, 1, none⟩ (.slice za2 p zc2)).setCell ⟨U, 2, none⟩ (.slice la2 m lc2)).setCell ⟨U, 3, none⟩ (.slice none 0 0)) = Y := ⟨_, rfl⟩
                rw [hY] at K34 ⊢
                clear hY
                refine wpAnyH_done (by kernel_rfl) ?_ _
                refine NoPanic.normal ?_
                (try go_wp2_with fail)
                go_meet
                exact ⟨S, U, _, _, _, _, _, _, _, _, _, _, _, _, E1, E2, rfl, rfl, HZ1.out, HZ2.out, K34.out.permL (List.Perm.swap _ _ _)⟩
              exact AllReadyH.nil
            exact AllReadyH.nil
          exact AllReadyH.nil
        refine AllReadyH.cons rfl (fun K hK => ?_) ?_
        case refine_1 =>
          have K35 := Lib.hid (K30.out.alloc (.cells #[.slice none 0 0, .slice none 0 0, .slice none 0 0, .slice none 0 0] 27))
          go_simp
          refine hK.out _ _ ?_ (fun hHeld => ?_)
          · exact (row3 (K35.out.at 2 rfl)).1
          clear hHeld hK K
          (try simp only [Act.put, List.setIfInBounds_toArray, List.set_cons_zero, List.set_cons_succ])
          obtain ⟨S, hS⟩ : ∃ b, Y30.heap.size = b := ⟨_, rfl⟩
          obtain ⟨Y35, hY⟩ : ∃ Y, Y30.alloc (.cells #[.slice none 0 0, .slice none 0 0, .slice none 0 0, .slice none 0 0] 27) = Y := ⟨_, rfl⟩
          rw [hY] at K35 ⊢
          rw [hS] at K35 ⊢
          clear hY hS
          refine wpAnyH_ready (rs := [3]) (by kernel_rfl) (by simp) ?_
          refine AllReadyH.cons rfl (fun K hK => ?_) ?_
          case refine_1 =>
            go_simp
            go_at_call 19
            refine (CM.out _ K35.out.below).mono ?_
            rintro e X2 ⟨rv, zv, lv, E2, rfl, hZ, hk⟩
            obtain ⟨ra2, rc2, rfl⟩ : ∃ a c, rv = .slice a D.length c := own_slice (hk.row 2 rfl)
            obtain ⟨za2, zc2, rfl⟩ : ∃ a c, zv = .slice a p c := own_slice (hk.row 1 rfl)
            obtain ⟨la2, lc2, rfl⟩ : ∃ a c, lv = .slice a m c := own_slice (hk.row 0 rfl)
            have HZ2 := Lib.hid hZ
            have K36 := Lib.hid (K35.out.adopt hk)
            clear hk hZ
            (try go_wp2_with fail)
            refine hK.out _ _ ?_ (fun hHeld => ?_)
            · exact (row3 (K36.out.at 2 rfl)).1
            clear hHeld hK K
            (try simp only [Act.put, List.setIfInBounds_toArray, List.set_cons_zero, List.set_cons_succ])
            refine wpAnyH_ready (rs := [6]) (by kernel_rfl) (by simp) ?_
            refine AllReadyH.cons rfl (fun K hK => ?_) ?_
            case refine_1 =>
              obtain ⟨s0, s1, s2, s3⟩ := row4 (K36.out.at 0 rfl)
              have f0 := free_at (K36.out.at 0 rfl) 0
              have f1 := free_at (K36.out.at 0 rfl) 1
              have f2 := free_at (K36.out.at 0 rfl) 2
              have f3 := free_at (K36.out.at 0 rfl) 3
              have K37 := Lib.hid ((((K36.out.set 0 rfl 0 (.slice ra1 D.length rc1) rfl).set 0 rfl 1 (.slice za1 p zc1) rfl).set 0 rfl 2 (.slice la1 m lc1) rfl).set 0 rfl 3 (.slice none 0 0) rfl)
              go_simp
              clear s0 s1 s2 s3 f0 f1 f2 f3
              refine hK.out _ _ ?_ (fun hHeld => ?_)
              · exact (row3 (K37.out.at 2 rfl)).1
              clear hHeld hK K
              (try simp only [Act.put, List.setIfInBounds_toArray, List.set_cons_zero, List.set_cons_succ])
              obtain ⟨Y37, hY⟩ : ∃ Y, ((((X2.setCell ⟨S, 0, none⟩ (.slice ra1 D.length rc1)).setCell ⟨S, 1, none⟩ (.slice za1 p zc1)).setCell ⟨S, 2, none⟩ (.slice la1 m lc1)).setCell ⟨S, 3, none⟩ (.slice none 0 0)) = Y := ⟨_, rfl⟩
              rw [hY] at K37 ⊢
              clear hY
              refine wpAnyH_ready (rs := [7]) (by kernel_rfl) (by simp) ?_
              refine AllReadyH.cons rfl (fun K hK => ?_) ?_
              case refine_1 =>
                obtain ⟨s0, s1, s2, s3⟩ := row4 (K37.out.at 1 rfl)
                have f0 := free_at (K37.out.at 1 rfl) 0
                have f1 := free_at (K37.out.at 1 rfl) 1
                have f2 := free_at (K37.out.at 1 rfl) 2
                have f3 := free_at (K37.out.at 1 rfl) 3
                have K38 := Lib.hid ((((K37.out.set 1 rfl 0 (.slice ra2 D.length rc2) rfl).set 1 rfl 1 (.slice za2 p zc2) rfl).set 1 rfl 2 (.slice la2 m lc2) rfl).set 1 rfl 3 (.slice none 0 0) rfl)
                go_simp
                clear s0 s1 s2 s3 f0 f1 f2 f3
                refine hK.out _ _ ?_ (fun hHeld => ?_)
                · exact (row3 (K38.out.at 2 rfl)).1
                clear hHeld hK K
                (try simp only [Act.put, List.setIfInBounds_toArray, List.set_cons_zero, List.set_cons_succ])
                obtain ⟨Y38, hY⟩ : ∃ Y, ((((Y37.setCell ⟨U, 0, none⟩ (.slice ra2 D.length rc2)).setCell ⟨U, 1, none⟩ (.slice za2 p zc2)).setCell ⟨U, 2, none⟩ (.slice la2 m lc2)).setCell ⟨U, 3, none⟩ (.slice none 0 0)) = Y := ⟨_, rfl⟩
                rw [hY] at K38 ⊢
                clear hY
                refine wpAnyH_done (by kernel_rfl) ?_ _
                refine NoPanic.normal ?_
                (try go_wp2_with fail)
                go_meet
                exact ⟨S, U, _, _, _, _, _, _, _, _, _, _, _, _, E1, E2, rfl, rfl, HZ1.out, HZ2.out, K38.out.permL (List.Perm.swap _ _ _)⟩
              exact AllReadyH.nil
            exact AllReadyH.nil
          exact AllReadyH.nil
        exact AllReadyH.nil
      exact AllReadyH.nil
    refine AllReadyH.cons rfl (fun K hK => ?_) ?_
    case refine_1 =>
      have K39 := Lib.hid (KD.out.alloc (.cells #[.slice none 0 0, .slice none 0 0, .slice none 0 0, .slice none 0 0] 27))
      go_simp
      refine hK.out _ _ ?_ (fun hHeld => ?_)
      · exact (row3 (K39.out.at 1 rfl)).1
      clear hHeld hK K
      (try simp only [Act.put, List.setIfInBounds_toArray, List.set_cons_zero, List.set_cons_succ])
      obtain ⟨S, hS⟩ : ∃ b, Y0.heap.size = b := ⟨_, rfl⟩
      obtain ⟨Y39, hY⟩ : ∃ Y, Y0.alloc (.cells #[.slice none 0 0, .slice none 0 0, .slice none 0 0, .slice none 0 0] 27) = Y := ⟨_, rfl⟩
      rw [hY] at K39 ⊢
      rw [hS] at K39 ⊢
      clear hY hS
      refine wpAnyH_ready (rs := [1, 5]) (by kernel_rfl) (by simp) ?_
      refine AllReadyH.cons rfl (fun K hK => ?_) ?_
      case refine_1 =>
        go_simp
        go_at_call 19
        refine (CM.out _ K39.out.below).mono ?_
        rintro e X1 ⟨rv, zv, lv, E1, rfl, hZ, hk⟩
        obtain ⟨ra1, rc1, rfl⟩ : ∃ a c, rv = .slice a D.length c := own_slice (hk.row 2 rfl)
        obtain ⟨za1, zc1, rfl⟩ : ∃ a c, zv = .slice a p c := own_slice (hk.row 1 rfl)
        obtain ⟨la1, lc1, rfl⟩ : ∃ a c, lv = .slice a m c := own_slice (hk.row 0 rfl)
        have HZ1 := Lib.hid hZ
        have K40 := Lib.hid (K39.out.adopt hk)
        clear hk hZ
        (try go_wp2_with fail)
        refine hK.out _ _ ?_ (fun hHeld => ?_)
        · exact (row3 (K40.out.at 1 rfl)).1
        clear hHeld hK K
        (try simp only [Act.put, List.setIfInBounds_toArray, List.set_cons_zero, List.set_cons_succ])
        refine wpAnyH_ready (rs := [3, 5]) (by kernel_rfl) (by simp) ?_
        refine AllReadyH.cons rfl (fun K hK => ?_) ?_
        case refine_1 =>
          go_simp
          go_at_call 19
          refine (CM.out _ K40.out.below).mono ?_
          rintro e X2 ⟨rv, zv, lv, E2, rfl, hZ, hk⟩
          obtain ⟨ra2, rc2, rfl⟩ : ∃ a c, rv = .slice a D.length c := own_slice (hk.row 2 rfl)
          obtain ⟨za2, zc2, rfl⟩ : ∃ a c, zv = .slice a p c := own_slice (hk.row 1 rfl)
          obtain ⟨la2, lc2, rfl⟩ : ∃ a c, lv = .slice a m c := own_slice (hk.row 0 rfl)
          have HZ2 := Lib.hid hZ
          have K41 := Lib.hid (K40.out.adopt hk)
          clear hk hZ
          (try go_wp2_with fail)
          refine hK.out _ _ ?_ (fun hHeld => ?_)
          · exact (row3 (K41.out.at 1 rfl)).1
          clear hHeld hK K
          (try simp only [Act.put, List.setIfInBounds_toArray, List.set_cons_zero, List.set_cons_succ])
          refine wpAnyH_ready (rs := [5]) (by kernel_rfl) (by simp) ?_
          refine AllReadyH.cons rfl (fun K hK => ?_) ?_
          case refine_1 =>
            have K42 := Lib.hid (K41.out.alloc (.cells #[.slice none 0 0, .slice none 0 0, .slice none 0 0, .slice none 0 0] 27))
            go_simp
            refine hK.out _ _ ?_ (fun hHeld => ?_)
            · exact (row3 (K42.out.at 2 rfl)).1
            clear hHeld hK K
            (try simp only [Act.put, List.setIfInBounds_toArray, List.set_cons_zero, List.set_cons_succ])
            obtain ⟨U, hU⟩ : ∃ b, X2.heap.size = b := ⟨_, rfl⟩
            obtain ⟨Y42, hY⟩ : ∃ Y, X2.alloc (.cells #[.slice none 0 0, .slice none 0 0, .slice none 0 0, .slice none 0 0] 27) = Y := ⟨_, rfl⟩
            rw [hY] at K42 ⊢
            rw [hU] at K42 ⊢
            clear hY hU
            refine wpAnyH_ready (rs := [6]) (by kernel_rfl) (by simp) ?_
            refine AllReadyH.cons rfl (fun K hK => ?_) ?_
            case refine_1 =>
              obtain ⟨s0, s1, s2, s3⟩ := row4 (K42.out.at 1 rfl)
              have f0 := free_at (K42.out.at 1 rfl) 0
              have f1 := free_at (K42.out.at 1 rfl) 1
              have f2 := free_at (K42.out.at 1 rfl) 2
              have f3 := free_at (K42.out.at 1 rfl) 3
              have K43 := Lib.hid ((((K42.out.set 1 rfl 0 (.slice ra1 D.length rc1) rfl).set 1 rfl 1 (.slice za1 p zc1) rfl).set 1 rfl 2 (.slice la1 m lc1) rfl).set 1 rfl 3 (.slice none 0 0) rfl)
              go_simp
              clear s0 s1 s2 s3 f0 f1 f2 f3
              refine hK.out _ _ ?_ (fun hHeld => ?_)
              · exact (row3 (K43.out.at 2 rfl)).1
              clear hHeld hK K
              (try simp only [Act.put, List.setIfInBounds_toArray, List.set_cons_zero, List.set_cons_succ])
              obtain ⟨Y43, hY⟩ : ∃ Y, ((((Y42.setCell ⟨S, 0, none⟩ (.slice ra1 D.length rc1)).setCell ⟨S, 1, none⟩ (.slice za1 p zc1)).setCell ⟨S, 2, none⟩ (.slice la1 m lc1)).setCell ⟨S, 3, none⟩ (.slice none 0 0)) = Y := ⟨_, rfl⟩
              rw [hY] at K43 ⊢
              clear hY
              refine wpAnyH_ready (rs := [7]) (by kernel_rfl) (by simp) ?_
              refine AllReadyH.cons rfl (fun K hK => ?_) ?_
              case refine_1 =>
                obtain ⟨s0, s1, s2, s3⟩ := row4 (K43.out.at 0 rfl)
                have f0 := free_at (K43.out.at 0 rfl) 0
                have f1 := free_at (K43.out.at 0 rfl) 1
                have f2 := free_at (K43.out.at 0 rfl) 2
                have f3 := free_at (K43.out.at 0 rfl) 3
                have K44 := Lib.hid ((((K43.out.set 0 rfl 0 (.slice ra2 D.length rc2) rfl).set 0 rfl 1 (.slice za2 p zc2) rfl).set 0 rfl 2 (.slice la2 m lc2) rfl).set 0 rfl 3 (.slice none 0 0) rfl)
                go_simp
                clear s0 s1 s2 s3 f0 f1 f2 f3
                refine hK.out _ _ ?_ (fun hHeld => ?_)
                · exact (row3 (K44.out.at 2 rfl)).1
                clear hHeld hK K
                (try simp only [Act.put, List.setIfInBounds_toArray, List.set_cons_zero, List.set_cons_succ])
                obtain ⟨Y44, hY⟩ : ∃ Y, ((((Y43.setCell ⟨U, 0, none⟩ (.slice ra2 D.length rc2)).setCell ⟨U, 1, none⟩ (.slice za2 p zc2)).setCell ⟨U, 2, none⟩ (.slice la2 m lc2)).setCell ⟨U, 3, none⟩ (.slice none 0 0)) = Y := ⟨_, rfl⟩
                rw [hY] at K44 ⊢
                clear hY
                refine wpAnyH_done (by kernel_rfl) ?_ _
                refine NoPanic.normal ?_
                (try go_wp2_with fail)
                go_meet
                exact ⟨S, U, _, _, _, _, _, _, _, _, _, _, _, _, E1, E2, rfl, rfl, HZ1.out, HZ2.out, K44.out.permL (List.Perm.refl _)⟩
              exact AllReadyH.nil
            exact AllReadyH.nil
          exact AllReadyH.nil
        refine AllReadyH.cons rfl (fun K hK => ?_) ?_
        case refine_1 =>
          have K45 := Lib.hid (K40.out.alloc (.cells #[.slice none 0 0, .slice none 0 0, .slice none 0 0, .slice none 0 0] 27))
          go_simp
          refine hK.out _ _ ?_ (fun hHeld => ?_)
          · exact (row3 (K45.out.at 2 rfl)).1
          clear hHeld hK K
          (try simp only [Act.put, List.setIfInBounds_toArray, List.set_cons_zero, List.set_cons_succ])
          obtain ⟨U, hU⟩ : ∃ b, X1.heap.size = b := ⟨_, rfl⟩
          obtain ⟨Y45, hY⟩ : ∃ Y, X1.alloc (.cells #[.slice none 0 0, .slice none 0 0, .slice none 0 0, .slice none 0 0] 27) = Y := ⟨_, rfl⟩
          rw [hY] at K45 ⊢
          rw [hU] at K45 ⊢
          clear hY hU
          refine wpAnyH_ready (rs := [3]) (by kernel_rfl) (by simp) ?_
          refine AllReadyH.cons rfl (fun K hK => ?_) ?_
          case refine_1 =>
            go_simp
            go_at_call 19
            refine (CM.out _ K45.out.below).mono ?_
            rintro e X2 ⟨rv, zv, lv, E2, rfl, hZ, hk⟩
            obtain ⟨ra2, rc2, rfl⟩ : ∃ a c, rv = .slice a D.length c := own_slice (hk.row 2 rfl)
            obtain ⟨za2, zc2, rfl⟩ : ∃ a c, zv = .slice a p c := own_slice (hk.row 1 rfl)
            obtain ⟨la2, lc2, rfl⟩ : ∃ a c, lv = .slice a m c := own_slice (hk.row 0 rfl)
            have HZ2 := Lib.hid hZ
            have K46 := Lib.hid (K45.out.adopt hk)
            clear hk hZ
            (try go_wp2_with fail)
            refine hK.out _ _ ?_ (fun hHeld => ?_)
            · exact (row3 (K46.out.at 2 rfl)).1
            clear hHeld hK K
            (try simp only [Act.put, List.setIfInBounds_toArray, List.set_cons_zero, List.set_cons_succ])
            refine wpAnyH_ready (rs := [6]) (by kernel_rfl) (by simp) ?_
            refine AllReadyH.cons rfl (fun K hK => ?_) ?_
            case refine_1 =>
              obtain ⟨s0, s1, s2, s3⟩ := row4 (K46.out.at 1 rfl)
              have f0 := free_at (K46.out.at 1 rfl) 0
              have f1 := free_at (K46.out.at 1 rfl) 1
              have f2 := free_at (K46.out.at 1 rfl) 2
              have f3 := free_at (K46.out.at 1 rfl) 3
              have K47 := Lib.hid ((((K46.out.set 1 rfl 0 (.slice ra1 D.length rc1) rfl).set 1 rfl 1 (.slice za1 p zc1) rfl).set 1 rfl 2 (.slice la1 m lc1) rfl).set 1 rfl 3 (.slice none 0 0) rfl)
              go_simp
              clear s0 s1 s2 s3 f0 f1 f2 f3
              refine hK.out _ _ ?_ (fun hHeld => ?_)
              · exact (row3 (K47.out.at 2 rfl)).1
              clear hHeld hK K
              (try simp only [Act.put, List.setIfInBounds_toArray, List.set_cons_zero, List.set_cons_succ])
              obtain ⟨Y47, hY⟩ : ∃ Y, ((((X2.setCell ⟨S, 0, none⟩ (.slice ra1 D.length rc1)).setCell ⟨S, 1, none⟩ (.slice za1 p zc1)).setCell ⟨S, 2, none⟩ (.slice la1 m lc1)).setCell ⟨S, 3, none⟩ (.slice none 0 0)) = Y := ⟨_, rfl⟩
              rw [hY] at K47 ⊢
              clear hY
              refine wpAnyH_ready (rs := [7]) (by kernel_rfl) (by simp) ?_
              refine AllReadyH.cons rfl (fun K hK => ?_) ?_
              case refine_1 =>
                obtain ⟨s0, s1, s2, s3⟩ := row4 (K47.out.at 0 rfl)
                have f0 := free_at (K47.out.at 0 rfl) 0
                have f1 := free_at (K47.out.at 0 rfl) 1
                have f2 := free_at (K47.out.at 0 rfl) 2
                have f3 := free_at (K47.out.at 0 rfl) 3
                have K48 := Lib.hid ((((K47.out.set 0 rfl 0 (.slice ra2 D.length rc2) rfl).set 0 rfl 1 (.slice za2 p zc2) rfl).set 0 rfl 2 (.slice la2 m lc2) rfl).set 0 rfl 3 (.slice none 0 0) rfl)
                go_simp
                clear s0 s1 s2 s3 f0 f1 f2 f3
                refine hK.out _ _ ?_ (fun hHeld => ?_)
                · exact (row3 (K48.out.at 2 rfl)).1
                clear hHeld hK K
                (try simp only [Act.put, List.setIfInBounds_toArray, List.set_cons_zero, List.set_cons_succ])
                obtain ⟨Y48, hY⟩ : ∃ Y, ((((Y47.setCell ⟨U, 0, none⟩ (.slice ra2 D.length rc2)).setCell ⟨U, 1, none⟩ (.slice za2 p zc2)).setCell ⟨U, 2, none⟩ (.slice la2 m lc2)).setCell ⟨U, 3, none⟩ (.slice none 0 0)) = Y := ⟨_, rfl⟩
                rw [hY] at K48 ⊢
                clear hY
                refine wpAnyH_done (by kernel_rfl) ?_ _
                refine NoPanic.normal ?_
                (try go_wp2_with fail)
                go_meet
                exact ⟨S, U, _, _, _, _, _, _, _, _, _, _, _, _, E1, E2, rfl, rfl, HZ1.out, HZ2.out, K48.out.permL (List.Perm.refl _)⟩
              exact AllReadyH.nil
            exact AllReadyH.nil
          exact AllReadyH.nil
        exact AllReadyH.nil
      refine AllReadyH.cons rfl (fun K hK => ?_) ?_
      case refine_1 =>
        have K49 := Lib.hid (K39.out.alloc (.cells #[.slice none 0 0, .slice none 0 0, .slice none 0 0, .slice none 0 0] 27))
        go_simp
        refine hK.out _ _ ?_ (fun hHeld => ?_)
        · exact (row3 (K49.out.at 2 rfl)).1
        clear hHeld hK K
        (try simp only [Act.put, List.setIfInBounds_toArray, List.set_cons_zero, List.set_cons_succ])
        obtain ⟨U, hU⟩ : ∃ b, Y39.heap.size = b := ⟨_, rfl⟩
        obtain ⟨Y49, hY⟩ : ∃ Y, Y39.alloc (.cells #[.slice none 0 0, .slice none 0 0, .slice none 0 0, .slice none 0 0] 27) = Y := ⟨_, rfl⟩
        rw [hY] at K49 ⊢
        rw [hU] at K49 ⊢
        clear hY hU
        refine wpAnyH_ready (rs := [1]) (by kernel_rfl) (by simp) ?_
        refine AllReadyH.cons rfl (fun K hK => ?_) ?_
        case refine_1 =>
          go_simp
          go_at_call 19
          refine (CM.out _ K49.out.below).mono ?_
          rintro e X1 ⟨rv, zv, lv, E1, rfl, hZ, hk⟩
          obtain ⟨ra1, rc1, rfl⟩ : ∃ a c, rv = .slice a D.length c := own_slice (hk.row 2 rfl)
          obtain ⟨za1, zc1, rfl⟩ : ∃ a c, zv = .slice a p c := own_slice (hk.row 1 rfl)
          obtain ⟨la1, lc1, rfl⟩ : ∃ a c, lv = .slice a m c := own_slice (hk.row 0 rfl)
          have HZ1 := Lib.hid hZ
          have K50 := Lib.hid (K49.out.adopt hk)
          clear hk hZ
          (try go_wp2_with fail)
          refine hK.out _ _ ?_ (fun hHeld => ?_)
          · exact (row3 (K50.out.at 2 rfl)).1
          clear hHeld hK K
          (try simp only [Act.put, List.setIfInBounds_toArray, List.set_cons_zero, List.set_cons_succ])
          refine wpAnyH_ready (rs := [3]) (by kernel_rfl) (by simp) ?_
          refine AllReadyH.cons rfl (fun K hK => ?_) ?_
          case refine_1 =>
            go_simp
            go_at_call 19
            refine (CM.out _ K50.out.below).mono ?_
            rintro e X2 ⟨rv, zv, lv, E2, rfl, hZ, hk⟩
            obtain ⟨ra2, rc2, rfl⟩ : ∃ a c, rv = .slice a D.length c := own_slice (hk.row 2 rfl)
            obtain ⟨za2, zc2, rfl⟩ : ∃ a c, zv = .slice a p c := own_slice (hk.row 1 rfl)
            obtain ⟨la2, lc2, rfl⟩ : ∃ a c, lv = .slice a m c := own_slice (hk.row 0 rfl)
            have HZ2 := Lib.hid hZ
            have K51 := Lib.hid (K50.out.adopt hk)
            clear hk hZ
            (try go_wp2_with fail)
            refine hK.out _ _ ?_ (fun hHeld => ?_)
            · exact (row3 (K51.out.at 2 rfl)).1
            clear hHeld hK K
            (try simp only [Act.put, List.setIfInBounds_toArray, List.set_cons_zero, List.set_cons_succ])
            refine wpAnyH_ready (rs := [6]) (by kernel_rfl) (by simp) ?_
            refine AllReadyH.cons rfl (fun K hK => ?_) ?_
            case refine_1 =>
              obtain ⟨s0, s1, s2, s3⟩ := row4 (K51.out.at 1 rfl)
              have f0 := free_at (K51.out.at 1 rfl) 0
              have f1 := free_at (K51.out.at 1 rfl) 1
              have f2 := free_at (K51.out.at 1 rfl) 2
              have f3 := free_at (K51.out.at 1 rfl) 3
              have K52 := Lib.hid ((((K51.out.set 1 rfl 0 (.slice ra1 D.length rc1) rfl).set 1 rfl 1 (.slice za1 p zc1) rfl).set 1 rfl 2 (.slice la1 m lc1) rfl).set 1 rfl 3 (.slice none 0 0) rfl)
              go_simp
              clear s0 s1 s2 s3 f0 f1 f2 f3
              refine hK.out _ _ ?_ (fun hHeld => ?_)
              · exact (row3 (K52.out.at 2 rfl)).1
              clear hHeld hK K
              (try simp only [Act.put, List.setIfInBounds_toArray, List.set_cons_zero, List.set_cons_succ])
              obtain ⟨Y52, hY⟩ : ∃ Y, ((((X2.setCell ⟨S, 0, none⟩ (.slice ra1 D.length rc1)).setCell ⟨S, 1, none⟩ (.slice za1 p zc1)).setCell ⟨S, 2, none⟩ (.slice la1 m lc1)).setCell ⟨S, 3, none⟩ (.slice none 0 0)) = Y := ⟨_, rfl⟩
              rw [hY] at K52 ⊢
              clear hY
              refine wpAnyH_ready (rs := [7]) (by kernel_rfl) (by simp) ?_
              refine AllReadyH.cons rfl (fun K hK => ?_) ?_
              case refine_1 =>
                obtain ⟨s0, s1, s2, s3⟩ := row4 (K52.out.at 0 rfl)
                have f0 := free_at (K52.out.at 0 rfl) 0
                have f1 := free_at (K52.out.at 0 rfl) 1
                have f2 := free_at (K52.out.at 0 rfl) 2
                have f3 := free_at (K52.out.at 0 rfl) 3
                have K53 := Lib.hid ((((K52.out.set 0 rfl 0 (.slice ra2 D.length rc2) rfl).set 0 rfl 1 (.slice za2 p zc2) rfl).set 0 rfl 2 (.slice la2 m lc2) rfl).set 0 rfl 3 (.slice none 0 0) rfl)
                go_simp
                clear s0 s1 s2 s3 f0 f1 f2 f3
                refine hK.out _ _ ?_ (fun hHeld => ?_)
                · exact (row3 (K53.out.at 2 rfl)).1
                clear hHeld hK K
                (try simp only [Act.put, List.setIfInBounds_toArray, List.set_cons_zero, List.set_cons_succ])
                obtain ⟨Y53, hY⟩ : ∃ Y, ((((Y52.setCell ⟨U, 0, none⟩ (.slice ra2 D.length rc2)).setCell ⟨U, 1, none⟩ (.slice za2 p zc2)).setCell ⟨U, 2, none⟩ (.slice la2 m lc2)).setCell ⟨U, 3, none⟩ (.slice none 0 0)) = Y := ⟨_, rfl⟩
                rw [hY] at K53 ⊢
                clear hY
                refine wpAnyH_done (by kernel_rfl) ?_ _
                refine NoPanic.normal ?_
                (try go_wp2_with fail)
                go_meet
                exact ⟨S, U, _, _, _, _, _, _, _, _, _, _, _, _, E1, E2, rfl, rfl, HZ1.out, HZ2.out, K53.out.permL (List.Perm.refl _)⟩
              exact AllReadyH.nil
            exact AllReadyH.nil
          exact AllReadyH.nil
        exact AllReadyH.nil
      exact AllReadyH.nil
    refine AllReadyH.cons rfl (fun K hK => ?_) ?_
    case refine_1 =>
      have K54 := Lib.hid (KD.out.alloc (.cells #[.slice none 0 0, .slice none 0 0, .slice none 0 0, .slice none 0 0] 27))
      go_simp
      refine hK.out _ _ ?_ (fun hHeld => ?_)
      · exact (row3 (K54.out.at 1 rfl)).1
      clear hHeld hK K
      (try simp only [Act.put, List.setIfInBounds_toArray, List.set_cons_zero, List.set_cons_succ])
      obtain ⟨U, hU⟩ : ∃ b, Y0.heap.size = b := ⟨_, rfl⟩
      obtain ⟨Y54, hY⟩ : ∃ Y, Y0.alloc (.cells #[.slice none 0 0, .slice none 0 0, .slice none 0 0, .slice none 0 0] 27) = Y := ⟨_, rfl⟩
      rw [hY] at K54 ⊢
      rw [hU] at K54 ⊢
      clear hY hU
      refine wpAnyH_ready (rs := [1, 4]) (by kernel_rfl) (by simp) ?_
      refine AllReadyH.cons rfl (fun K hK => ?_) ?_
      case refine_1 =>
        go_simp
        go_at_call 19
        refine (CM.out _ K54.out.below).mono ?_
        rintro e X1 ⟨rv, zv, lv, E1, rfl, hZ, hk⟩
        obtain ⟨ra1, rc1, rfl⟩ : ∃ a c, rv = .slice a D.length c := own_slice (hk.row 2 rfl)
        obtain ⟨za1, zc1, rfl⟩ : ∃ a c, zv = .slice a p c := own_slice (hk.row 1 rfl)
        obtain ⟨la1, lc1, rfl⟩ : ∃ a c, lv = .slice a m c := own_slice (hk.row 0 rfl)
        have HZ1 := Lib.hid hZ
        have K55 := Lib.hid (K54.out.adopt hk)
        clear hk hZ
        (try go_wp2_with fail)
        refine hK.out _ _ ?_ (fun hHeld => ?_)
        · exact (row3 (K55.out.at 1 rfl)).1
        clear hHeld hK K
        (try simp only [Act.put, List.setIfInBounds_toArray, List.set_cons_zero, List.set_cons_succ])
        refine wpAnyH_ready (rs := [3, 4]) (by kernel_rfl) (by simp) ?_
        refine AllReadyH.cons rfl (fun K hK => ?_) ?_
        case refine_1 =>
          go_simp
          go_at_call 19
          refine (CM.out _ K55.out.below).mono ?_
          rintro e X2 ⟨rv, zv, lv, E2, rfl, hZ, hk⟩
          obtain ⟨ra2, rc2, rfl⟩ : ∃ a c, rv = .slice a D.length c := own_slice (hk.row 2 rfl)
          obtain ⟨za2, zc2, rfl⟩ : ∃ a c, zv = .slice a p c := own_slice (hk.row 1 rfl)
          obtain ⟨la2, lc2, rfl⟩ : ∃ a c, lv = .slice a m c := own_slice (hk.row 0 rfl)
          have HZ2 := Lib.hid hZ
          have K56 := Lib.hid (K55.out.adopt hk)
          clear hk hZ
          (try go_wp2_with fail)
          refine hK.out _ _ ?_ (fun hHeld => ?_)
          · exact (row3 (K56.out.at 1 rfl)).1
          clear hHeld hK K
          (try simp only [Act.put, List.setIfInBounds_toArray, List.set_cons_zero, List.set_cons_succ])
          refine wpAnyH_ready (rs := [4]) (by kernel_rfl) (by simp) ?_
          refine AllReadyH.cons rfl (fun K hK => ?_) ?_
          case refine_1 =>
            have K57 := Lib.hid (K56.out.alloc (.cells #[.slice none 0 0, .slice none 0 0, .slice none 0 0, .slice none 0 0] 27))
            go_simp
            refine hK.out _ _ ?_ (fun hHeld => ?_)
            · exact (row3 (K57.out.at 2 rfl)).1
            clear hHeld hK K
            (try simp only [Act.put, List.setIfInBounds_toArray, List.set_cons_zero, List.set_cons_succ])
            obtain ⟨S, hS⟩ : ∃ b, X2.heap.size = b := ⟨_, rfl⟩
            obtain ⟨Y57, hY⟩ : ∃ Y, X2.alloc (.cells #[.slice none 0 0, .slice none 0 0, .slice none 0 0, .slice none 0 0] 27) = Y := ⟨_, rfl⟩
            rw [hY] at K57 ⊢
            rw [hS] at K57 ⊢
            clear hY hS
            refine wpAnyH_ready (rs := [6]) (by kernel_rfl) (by simp) ?_
            refine AllReadyH.cons rfl (fun K hK => ?_) ?_
            case refine_1 =>
              obtain ⟨s0, s1, s2, s3⟩ := row4 (K57.out.at 0 rfl)
              have f0 := free_at (K57.out.at 0 rfl) 0
              have f1 := free_at (K57.out.at 0 rfl) 1
              have f2 := free_at (K57.out.at 0 rfl) 2
              have f3 := free_at (K57.out.at 0 rfl) 3
              have K58 := Lib.hid ((((K57.out.set 0 rfl 0 (.slice ra1 D.length rc1) rfl).set 0 rfl 1 (.slice za1 p zc1) rfl).set 0 rfl 2 (.slice la1 m lc1) rfl).set 0 rfl 3 (.slice none 0 0) rfl)
              go_simp
              clear s0 s1 s2 s3 f0 f1 f2 f3
              refine hK.out _ _ ?_ (fun hHeld => ?_)
              · exact (row3 (K58.out.at 2 rfl)).1
              clear hHeld hK K
              (try simp only [Act.put, List.setIfInBounds_toArray, List.set_cons_zero, List.set_cons_succ])
              obtain ⟨Y58, hY⟩ : ∃ Y, ((((Y57.setCell ⟨S, 0, none⟩ (.slice ra1 D.length rc1)).setCell ⟨S, 1, none⟩ (.slice za1 p zc1)).setCell ⟨S, 2, none⟩ (.slice la1 m lc1)).setCell ⟨S, 3, none⟩ (.slice none 0 0)) = Y := ⟨_, rfl⟩
              rw [hY] at K58 ⊢
              clear hY
              refine wpAnyH_ready (rs := [7]) (by kernel_rfl) (by simp) ?_
              refine AllReadyH.cons rfl (fun K hK => ?_) ?_
              case refine_1 =>
                obtain ⟨s0, s1, s2, s3⟩ := row4 (K58.out.at 1 rfl)
                have f0 := free_at (K58.out.at 1 rfl) 0
                have f1 := free_at (K58.out.at 1 rfl) 1
                have f2 := free_at (K58.out.at 1 rfl) 2
                have f3 := free_at (K58.out.at 1 rfl) 3
                have K59 := Lib.hid ((((K58.out.set 1 rfl 0 (.slice ra2 D.length rc2) rfl).set 1 rfl 1 (.slice za2 p zc2) rfl).set 1 rfl 2 (.slice la2 m lc2) rfl).set 1 rfl 3 (.slice none 0 0) rfl)
                go_simp
                clear s0 s1 s2 s3 f0 f1 f2 f3
                refine hK.out _ _ ?_ (fun hHeld => ?_)
                · exact (row3 (K59.out.at 2 rfl)).1
                clear hHeld hK K
                (try simp only [Act.put, List.setIfInBounds_toArray, List.set_cons_zero, List.set_cons_succ])
                obtain ⟨Y59, hY⟩ : ∃ Y, ((((Y58.setCell ⟨U, 0, none⟩ (.slice ra2 D.length rc2)).setCell ⟨U, 1, none⟩ (.slice za2 p zc2)).setCell ⟨U, 2, none⟩ (.slice la2 m lc2)).setCell ⟨U, 3, none⟩ (.slice none 0 0)) = Y := ⟨_, rfl⟩
                rw [hY] at K59 ⊢
                clear hY
                refine wpAnyH_done (by kernel_rfl) ?_ _
                refine NoPanic.normal ?_
                (try go_wp2_with fail)
                go_meet
                exact ⟨S, U, _, _, _, _, _, _, _, _, _, _, _, _, E1, E2, rfl, rfl, HZ1.out, HZ2.out, K59.out.permL (List.Perm.swap _ _ _)⟩
              exact AllReadyH.nil
            exact AllReadyH.nil
          exact AllReadyH.nil
        refine AllReadyH.cons rfl (fun K hK => ?_) ?_
        case refine_1 =>
          have K60 := Lib.hid (K55.out.alloc (.cells #[.slice none 0 0, .slice none 0 0, .slice none 0 0, .slice none 0 0] 27))
          go_simp
          refine hK.out _ _ ?_ (fun hHeld => ?_)
          · exact (row3 (K60.out.at 2 rfl)).1
          clear hHeld hK K
          (try simp only [Act.put, List.setIfInBounds_toArray, List.set_cons_zero, List.set_cons_succ])
          obtain ⟨S, hS⟩ : ∃ b, X1.heap.size = b := ⟨_, rfl⟩
          obtain ⟨Y60, hY⟩ : ∃ Y, X1.alloc (.cells #[.slice none 0 0, .slice none 0 0, .slice none 0 0, .slice none 0 0] 27) = Y := ⟨_, rfl⟩
          rw [hY] at K60 ⊢
          rw [hS] at K60 ⊢
          clear hY hS
          refine wpAnyH_ready (rs := [3]) (by kernel_rfl) (by simp) ?_
          refine AllReadyH.cons rfl (fun K hK => ?_) ?_
          case refine_1 =>
            go_simp
            go_at_call 19
            refine (CM.out _ K60.out.below).mono ?_
            rintro e X2 ⟨rv, zv, lv, E2, rfl, hZ, hk⟩
            obtain ⟨ra2, rc2, rfl⟩ : ∃ a c, rv = .slice a D.length c := own_slice (hk.row 2 rfl)
            obtain ⟨za2, zc2, rfl⟩ : ∃ a c, zv = .slice a p c := own_slice (hk.row 1 rfl)
            obtain ⟨la2, lc2, rfl⟩ : ∃ a c, lv = .slice a m c := own_slice (hk.row 0 rfl)
            have HZ2 := Lib.hid hZ
            have K61 := Lib.hid (K60.out.adopt hk)
            clear hk hZ
            (try go_wp2_with fail)
            refine hK.out _ _ ?_ (fun hHeld => ?_)
            · exact (row3 (K61.out.at 2 rfl)).1
            clear hHeld hK K
            (try simp only [Act.put, List.setIfInBounds_toArray, List.set_cons_zero, List.set_cons_succ])
            refine wpAnyH_ready (rs := [6]) (by kernel_rfl) (by simp) ?_
            refine AllReadyH.cons rfl (fun K hK => ?_) ?_
            case refine_1 =>
              obtain ⟨s0, s1, s2, s3⟩ := row4 (K61.out.at 0 rfl)
              have f0 := free_at (K61.out.at 0 rfl) 0
              have f1 := free_at (K61.out.at 0 rfl) 1
              have f2 := free_at (K61.out.at 0 rfl) 2
              have f3 := free_at (K61.out.at 0 rfl) 3
              have K62 := Lib.hid ((((K61.out.set 0 rfl 0 (.slice ra1 D.length rc1) rfl).set 0 rfl 1 (.slice za1 p zc1) rfl).set 0 rfl 2 (.slice la1 m lc1) rfl).set 0 rfl 3 (.slice none 0 0) rfl)
              go_simp
              clear s0 s1 s2 s3 f0 f1 f2 f3
              refine hK.out _ _ ?_ (fun hHeld => ?_)
              · exact (row3 (K62.out.at 2 rfl)).1
              clear hHeld hK K
              (try simp only [Act.put, List.setIfInBounds_toArray, List.set_cons_zero, List.set_cons_succ])
              obtain ⟨Y62, hY⟩ : ∃ Y, ((((X2.setCell ⟨S, 0, none⟩ (.slice ra1 D.length rc1)).setCell ⟨S, 1, none⟩ (.slice za1 p zc1)).setCell ⟨S, 2, none⟩ (.slice la1 m lc1)).setCell ⟨S, 3, none⟩ (.slice none 0 0)) = Y := ⟨_, rfl⟩
              rw [hY] at K62 ⊢
              clear hY
              refine wpAnyH_ready (rs := [7]) (by kernel_rfl) (by simp) ?_
              refine AllReadyH.cons rfl (fun K hK => ?_) ?_
              case refine_1 =>
                obtain ⟨s0, s1, s2, s3⟩ := row4 (K62.out.at 1 rfl)
                have f0 := free_at (K62.out.at 1 rfl) 0
                have f1 := free_at (K62.out.at 1 rfl) 1
                have f2 := free_at (K62.out.at 1 rfl) 2
                have f3 := free_at (K62.out.at 1 rfl) 3
                have K63 := Lib.hid ((((K62.out.set 1 rfl 0 (.slice ra2 D.length rc2) rfl).set 1 rfl 1 (.slice za2 p zc2) rfl).set 1 rfl 2 (.slice la2 m lc2) rfl).set 1 rfl 3 (.slice none 0 0) rfl)
                go_simp
                clear s0 s1 s2 s3 f0 f1 f2 f3
                refine hK.out _ _ ?_ (fun hHeld => ?_)
                · exact (row3 (K63.out.at 2 rfl)).1
                clear hHeld hK K
                (try simp only [Act.put, List.setIfInBounds_toArray, List.set_cons_zero, List.set_cons_succ])
                obtain ⟨Y63, hY⟩ : ∃ Y, ((((Y62.setCell ⟨U, 0, none⟩ (.slice ra2 D.length rc2)).setCell ⟨U, 1, none⟩ (.slice za2 p zc2)).setCell ⟨U, 2, none⟩ (.slice la2 m lc2)).setCell ⟨U, 3, none⟩ (.slice none 0 0)) = Y := ⟨_, rfl⟩
                rw [hY] at K63 ⊢
                clear hY
                refine wpAnyH_done (by kernel_rfl) ?_ _
                refine NoPanic.normal ?_
                (try go_wp2_with fail)
                go_meet
                exact ⟨S, U, _, _, _, _, _, _, _, _, _, _, _, _, E1, E2, rfl, rfl, HZ1.out, HZ2.out, K63.out.permL (List.Perm.swap _ _ _)⟩
              exact AllReadyH.nil
            exact AllReadyH.nil
          exact AllReadyH.nil
        exact AllReadyH.nil
      refine AllReadyH.cons rfl (fun K hK => ?_) ?_
      case refine_1 =>
        have K64 := Lib.hid (K54.out.alloc (.cells #[.slice none 0 0, .slice none 0 0, .slice none 0 0, .slice none 0 0] 27))
        go_simp
        refine hK.out _ _ ?_ (fun hHeld => ?_)
        · exact (row3 (K64.out.at 2 rfl)).1
        clear hHeld hK K
        (try simp only [Act.put, List.setIfInBounds_toArray, List.set_cons_zero, List.set_cons_succ])
        obtain ⟨S, hS⟩ : ∃ b, Y54.heap.size = b := ⟨_, rfl⟩
        obtain ⟨Y64, hY⟩ : ∃ Y, Y54.alloc (.cells #[.slice none 0 0, .slice none 0 0, .slice none 0 0, .slice none 0 0] 27) = Y := ⟨_, rfl⟩
        rw [hY] at K64 ⊢
        rw [hS] at K64 ⊢
        clear hY hS
        refine wpAnyH_ready (rs := [1]) (by kernel_rfl) (by simp) ?_
        refine AllReadyH.cons rfl (fun K hK => ?_) ?_
        case refine_1 =>
          go_simp
          go_at_call 19
          refine (CM.out _ K64.out.below).mono ?_
          rintro e X1 ⟨rv, zv, lv, E1, rfl, hZ, hk⟩
          obtain ⟨ra1, rc1, rfl⟩ : ∃ a c, rv = .slice a D.length c := own_slice (hk.row 2 rfl)
          obtain ⟨za1, zc1, rfl⟩ : ∃ a c, zv = .slice a p c := own_slice (hk.row 1 rfl)
          obtain ⟨la1, lc1, rfl⟩ : ∃ a c, lv = .slice a m c := own_slice (hk.row 0 rfl)
          have HZ1 := Lib.hid hZ
          have K65 := Lib.hid (K64.out.adopt hk)
          clear hk hZ
          (try go_wp2_with fail)
          refine hK.out _ _ ?_ (fun hHeld => ?_)
          · exact (row3 (K65.out.at 2 rfl)).1
          clear hHeld hK K
          (try simp only [Act.put, List.setIfInBounds_toArray, List.set_cons_zero, List.set_cons_succ])
          refine wpAnyH_ready (rs := [3]) (by kernel_rfl) (by simp) ?_
          refine AllReadyH.cons rfl (fun K hK => ?_) ?_
          case refine_1 =>
            go_simp
            go_at_call 19
            refine (CM.out _ K65.out.below).mono ?_
            rintro e X2 ⟨rv, zv, lv, E2, rfl, hZ, hk⟩
            obtain ⟨ra2, rc2, rfl⟩ : ∃ a c, rv = .slice a D.length c := own_slice (hk.row 2 rfl)
            obtain ⟨za2, zc2, rfl⟩ : ∃ a c, zv = .slice a p c := own_slice (hk.row 1 rfl)
            obtain ⟨la2, lc2, rfl⟩ : ∃ a c, lv = .slice a m c := own_slice (hk.row 0 rfl)
            have HZ2 := Lib.hid hZ
            have K66 := Lib.hid (K65.out.adopt hk)
            clear hk hZ
            (try go_wp2_with fail)
            refine hK.out _ _ ?_ (fun hHeld => ?_)
            · exact (row3 (K66.out.at 2 rfl)).1
            clear hHeld hK K
            (try simp only [Act.put, List.setIfInBounds_toArray, List.set_cons_zero, List.set_cons_succ])
            refine wpAnyH_ready (rs := [6]) (by kernel_rfl) (by simp) ?_
            refine AllReadyH.cons rfl (fun K hK => ?_) ?_
            case refine_1 =>
              obtain ⟨s0, s1, s2, s3⟩ := row4 (K66.out.at 0 rfl)
              have f0 := free_at (K66.out.at 0 rfl) 0
              have f1 := free_at (K66.out.at 0 rfl) 1
              have f2 := free_at (K66.out.at 0 rfl) 2
              have f3 := free_at (K66.out.at 0 rfl) 3
              have K67 := Lib.hid ((((K66.out.set 0 rfl 0 (.slice ra1 D.length rc1) rfl).set 0 rfl 1 (.slice za1 p zc1) rfl).set 0 rfl 2 (.slice la1 m lc1) rfl).set 0 rfl 3 (.slice none 0 0) rfl)
              go_simp
              clear s0 s1 s2 s3 f0 f1 f2 f3
              refine hK.out _ _ ?_ (fun hHeld => ?_)
              · exact (row3 (K67.out.at 2 rfl)).1
              clear hHeld hK K
              (try simp only [Act.put, List.setIfInBounds_toArray, List.set_cons_zero, List.set_cons_succ])
              obtain ⟨Y67, hY⟩ : ∃ Y, ((((X2.setCell ⟨S, 0, none⟩ (.slice ra1 D.length rc1)).setCell ⟨S, 1, none⟩ (.slice za1 p zc1)).setCell ⟨S, 2, none⟩ (.slice la1 m lc1)).setCell ⟨S, 3, none⟩ (.slice none 0 0)) = Y := ⟨_, rfl⟩
              rw [hY] at K67 ⊢
              clear hY
              refine wpAnyH_ready (rs := [7]) (by kernel_rfl) (by simp) ?_
              refine AllReadyH.cons rfl (fun K hK => ?_) ?_
              case refine_1 =>
                obtain ⟨s0, s1, s2, s3⟩ := row4 (K67.out.at 1 rfl)
                have f0 := free_at (K67.out.at 1 rfl) 0
                have f1 := free_at (K67.out.at 1 rfl) 1
                have f2 := free_at (K67.out.at 1 rfl) 2
                have f3 := free_at (K67.out.at 1 rfl) 3
                have K68 := Lib.hid ((((K67.out.set 1 rfl 0 (.slice ra2 D.length rc2) rfl).set 1 rfl 1 (.slice za2 p zc2) rfl).set 1 rfl 2 (.slice la2 m lc2) rfl).set 1 rfl 3 (.slice none 0 0) rfl)
                go_simp
                clear s0 s1 s2 s3 f0 f1 f2 f3
                refine hK.out _ _ ?_ (fun hHeld => ?_)
                · exact (row3 (K68.out.at 2 rfl)).1
                clear hHeld hK K
                (try simp only [Act.put, List.setIfInBounds_toArray, List.set_cons_zero, List.set_cons_succ])
                obtain ⟨Y68, hY⟩ : ∃ Y, ((((Y67.setCell ⟨U, 0, none⟩ (.slice ra2 D.length rc2)).setCell ⟨U, 1, none⟩ (.slice za2 p zc2)).setCell ⟨U, 2, none⟩ (.slice la2 m lc2)).setCell ⟨U, 3, none⟩ (.slice none 0 0)) = Y := ⟨_, rfl⟩
                rw [hY] at K68 ⊢
                clear hY
                refine wpAnyH_done (by kernel_rfl) ?_ _
                refine NoPanic.normal ?_
                (try go_wp2_with fail)
                go_meet
                exact ⟨S, U, _, _, _, _, _, _, _, _, _, _, _, _, E1, E2, rfl, rfl, HZ1.out, HZ2.out, K68.out.permL (List.Perm.swap _ _ _)⟩
              exact AllReadyH.nil
            exact AllReadyH.nil
          exact AllReadyH.nil
        exact AllReadyH.nil
      exact AllReadyH.nil
    exact AllReadyH.nil
  case rest =>
    obtain ⟨S, U, ra1, za1, la1, ra2, za2, la2, rc1, zc1, lc1, rc2, zc2, lc2, E1, E2, rfl, rfl, hZ1, hZ2, hk⟩ := hcut
    have K1 := Lib.hid hk
    have HB1 := Lib.hid hk.below
    have HKS := Lib.hid (fun (Y : World) (hB : Below wc.heap.size wc Y) => row4 ((K1.out.keep hB).at 1 rfl))
    have HKU := Lib.hid (fun (Y : World) (hB : Below wc.heap.size wc Y) => row4 ((K1.out.keep hB).at 0 rfl))
    have HPS := Lib.hid (show ∃ Q, SrcP wc (.slice ra1 D.length rc1) (.slice za1 p zc1) (.slice la1 m lc1) (.slice none 0 0) D T Q (L23 p m Ln) [] from by
      have k1 : Kp _ ((⟨.slice la1 m lc1, 43, 2, m, (L23 p m Ln).flatMap kcells⟩ :: ⟨.slice za1 p zc1, 40, 2, p, (E1.map Prod.snd).flatMap zcells⟩ :: ⟨.slice ra1 D.length rc1, 36, 11, D.length, D.flatMap ruqC⟩ :: E1.reverse.map eraR)) W wc := (K1.out.less (List.sublist_append_right _ _)).less (by rw [List.append_nil]; exact List.Sublist.refl _)
      refine ⟨E1.map Prod.snd, srcP_own (k1.row 2 rfl) ?_ (by rw [HLl.out]; exact k1.row 0 rfl) (World.ownsRow_nil _ _ _ _) (zt_copy (R := [_, _, _]) k1 hZ1.zq hZ1.same) (eras_nil2 (R := [_, _, _]) k1) HSm.out⟩
      rw [List.length_map, hZ1.len.2]
      exact k1.row 1 rfl)
    have HPU := Lib.hid (show ∃ Q, SrcP wc (.slice ra2 D.length rc2) (.slice za2 p zc2) (.slice la2 m lc2) (.slice none 0 0) D T Q (L23 p m Ln) [] from by
      have k1 : Kp _ ((⟨.slice la2 m lc2, 43, 2, m, (L23 p m Ln).flatMap kcells⟩ :: ⟨.slice za2 p zc2, 40, 2, p, (E2.map Prod.snd).flatMap zcells⟩ :: ⟨.slice ra2 D.length rc2, 36, 11, D.length, D.flatMap ruqC⟩ :: E2.reverse.map eraR)) W wc := K1.out.less (List.sublist_append_left _ _)
      refine ⟨E2.map Prod.snd, srcP_own (k1.row 2 rfl) ?_ (by rw [HLl.out]; exact k1.row 0 rfl) (World.ownsRow_nil _ _ _ _) (zt_copy (R := [_, _, _]) k1 hZ2.zq hZ2.same) (eras_nil2 (R := [_, _, _]) k1) HSm.out⟩
      rw [List.length_map, hZ2.len.2]
      exact k1.row 1 rfl)
    obtain ⟨Q1, hp1'⟩ := HPS.out
    obtain ⟨Q2, hp2'⟩ := HPU.out
    have HP1 := Lib.hid hp1'
    have HP2 := Lib.hid hp2'
    have CL := Lib.hid (linksO hp1' HF.out (by rw [HTn.out]; exact HFi.out.check))
    have CS := Lib.hid (fun (Y : World) (hB : Below wc.heap.size wc Y) => sortO (hp1'.keep hB) HF.out)
    rw [HTl.out, HLl.out] at CL CS
    clear hk hZ1 hZ2 hp1' hp2' HPS HPU K1 KD K0 v0 v1 v2 CM
    obtain ⟨x0, x1, x2, x3⟩ := HKS.out _ (Below.refl _ _)
    have K2 := Lib.hid (Kp.start wc)
    go_upto_region 3 with (first | (go_at_call 14; refine CL.out.mono ?_; rintro e X3 ⟨v3, rfl, ⟨ra3, za3, la3, sa3, rc3, zc3, lc3, sc3, Q3, R3, ev, hx, hk⟩⟩; subst ev; have K3 := Lib.hid ((show Kp [] R3 wc X3 from hk).allocAt X3.heap.size rfl (.cells #[.slice ra3 D.length rc3, .slice za3 p zc3, .slice la3 m lc3, .slice sa3 0 sc3] 27)); have HX3 := Lib.hid hx; clear hk hx))
    obtain ⟨F, hF⟩ : ∃ b, X3.heap.size = b := ⟨_, rfl⟩
    obtain ⟨Y3, hY3⟩ : ∃ Y, X3.alloc (.cells #[.slice ra3 D.length rc3, .slice za3 p zc3, .slice la3 m lc3, .slice sa3 0 sc3] 27) = Y := ⟨_, rfl⟩
    rw [hY3] at K3 ⊢
    rw [hF] at K3 ⊢
    clear hY3 hF x0 x1 x2 x3 CL K2
    obtain ⟨x0, x1, x2, x3⟩ := HKS.out _ K3.out.below
    go_upto_region 4 with (first | (go_at_call 17; refine (CS.out _ K3.out.below).mono ?_; rintro e X4 ⟨v4, rfl, ⟨ra4, za4, la4, sa4, rc4, zc4, lc4, sc4, Q4, R4, ev, hx, hk⟩⟩; subst ev; have K4 := Lib.hid ((K3.out.adopt hk).allocAt X4.heap.size rfl (.cells #[.slice ra4 D.length rc4, .slice za4 p zc4, .slice la4 m lc4, .slice sa4 0 sc4] 27)); have HX4 := Lib.hid hx; clear hk hx))
    obtain ⟨G, hG⟩ : ∃ b, X4.heap.size = b := ⟨_, rfl⟩
    obtain ⟨Y4, hY4⟩ : ∃ Y, X4.alloc (.cells #[.slice ra4 D.length rc4, .slice za4 p zc4, .slice la4 m lc4, .slice sa4 0 sc4] 27) = Y := ⟨_, rfl⟩
    rw [hY4] at K4 ⊢
    rw [hG] at K4 ⊢
    clear hY4 hG x0 x1 x2 x3 CS K3
    obtain ⟨x0, x1, x2, x3⟩ := HKS.out _ K4.out.below
    obtain ⟨y0, y1, y2, y3⟩ := row4 (K4.out.at 1 rfl)
    obtain ⟨z0, z1, z2, z3⟩ := row4 (K4.out.at 0 rfl)
    have K5 := Lib.hid (K4.out.allocAt _ rfl (.cells #[.slice ra3 D.length rc3, .slice za3 p zc3, .slice la3 m lc3, .slice sa3 0 sc3, .slice ra4 D.length rc4, .slice za4 p zc4, .slice la4 m lc4, .slice sa4 0 sc4] 27))
    go_upto_region 7 with fail
    obtain ⟨AB, hAB⟩ : ∃ b, Y4.heap.size = b := ⟨_, rfl⟩
    obtain ⟨Y5, hY5⟩ : ∃ Y, Y4.alloc (.cells #[.slice ra3 D.length rc3, .slice za3 p zc3, .slice la3 m lc3, .slice sa3 0 sc3, .slice ra4 D.length rc4, .slice za4 p zc4, .slice la4 m lc4, .slice sa4 0 sc4] 27) = Y := ⟨_, rfl⟩
    rw [hY5] at K5 ⊢
    rw [hAB] at K5 ⊢
    clear hAB hY5 x0 x1 x2 x3 y0 y1 y2 y3 z0 z1 z2 z3
    have HNe := Lib.hid (show (.slice za3 p zc3 : Value) ≠ .slice za4 p zc4 from fun e => by
      obtain ⟨g, rfl, -⟩ := own_some (K5.out.own _ (List.mem_append_left _ HX4.out.zo)) (show 0 < p by omega)
      have := (List.pairwise_append.1 K5.out.offR).2.2 _ HX4.out.zo _ HX3.out.zo g rfl
      dsimp only at this
      rw [e] at this
      exact this rfl)
    have KL := Lib.hid (show Kp [(AB, .cells #[.slice ra3 D.length rc3, .slice za3 p zc3, .slice la3 m lc3, .slice sa3 0 sc3, .slice ra4 D.length rc4, .slice za4 p zc4, .slice la4 m lc4, .slice sa4 0 sc4] 27)] (R4 ++ R3) wc Y5 from K5.out.pick (.cons_cons _ (List.nil_sublist _)))
    have HM3 := Lib.hid (HX3.out.more (R' := R4 ++ R3) (fun r hr => List.mem_append_right _ hr))
    have HM4 := Lib.hid (HX4.out.more (R' := R4 ++ R3) (fun r hr => List.mem_append_left _ hr))
    clear K5 K4 HX3 HX4
    go_loopw [9, 11, 47] (fun _ _ i47 wr => ∃ (i : Nat) (R : List Rw), i ≤ 2 ∧ i47 = .int .i64 (i : Int) ∧ (i = 0 → XOk R ra3 za3 la3 D.length rc3 p zc3 m lc3 Q3) ∧ (i ≤ 1 → XOk R ra4 za4 la4 D.length rc4 p zc4 m lc4 Q4) ∧ Kp [(AB, .cells #[.slice ra3 D.length rc3, .slice za3 p zc3, .slice la3 m lc3, .slice sa3 0 sc3, .slice ra4 D.length rc4, .slice za4 p zc4, .slice la4 m lc4, .slice sa4 0 sc4] 27)] R wc wr) (fun _ _ i47 _ => 2 - (intOf i47).toNat)
    case atStart => exact ⟨0, _, by omega, rfl, fun _ => HM3.out, fun _ => HM4.out, KL.out⟩
    case round =>
      clear KL HM3 HM4
      obtain ⟨i, R, hi', rfl, h3, h4, hk⟩ := hrel
      have KR := Lib.hid hk
      have H4 := Lib.hid h4
      by_cases hlt : i < 2
      · have hiI : (i : Int) < 2 := by omega
        obtain ⟨ra5, za5, la5, sa5, rc5, zc5, lc5, sc5, Q5, hx, hc, hne⟩ : ∃ (ra5 za5 la5 sa5 : Option Addr) (rc5 zc5 lc5 sc5 : Nat) (Q5 : List Zo), XOk R ra5 za5 la5 D.length rc5 p zc5 m lc5 Q5 ∧ (wr.cell? ⟨AB, i * 4, none⟩ = some (.slice ra5 D.length rc5) ∧ wr.cell? ⟨AB, i * 4 + 1, none⟩ = some (.slice za5 p zc5) ∧ wr.cell? ⟨AB, i * 4 + 2, none⟩ = some (.slice la5 m lc5) ∧ wr.cell? ⟨AB, i * 4 + 3, none⟩ = some (.slice sa5 0 sc5)) ∧ (i = 0 → (.slice za5 p zc5 : Value) ≠ .slice za4 p zc4) := by
          have HC := fun j => cells_at (hk.at 0 rfl) j
          have h01 : i = 0 ∨ i = 1 := by omega
          rcases h01 with rfl | rfl
          · exact ⟨ra3, za3, la3, sa3, rc3, zc3, lc3, sc3, Q3, h3 rfl, ⟨HC 0, HC 1, HC 2, HC 3⟩, fun _ => HNe.out⟩
          · exact ⟨ra4, za4, la4, sa4, rc4, zc4, lc4, sc4, Q4, h4 (by omega), ⟨HC 4, HC 5, HC 6, HC 7⟩, fun e => by omega⟩
        obtain ⟨q0, q1, q2, q3⟩ := hc
        have HX := Lib.hid hx
        have HNX := Lib.hid hne
        have K6 := Lib.hid (hk.allocAt _ rfl (.cells #[.slice ra5 D.length rc5, .slice za5 p zc5, .slice la5 m lc5, .slice sa5 0 sc5] 27))
        clear hx hk h3 h4 hne
        go_upto_region 9 with fail
        obtain ⟨B9, hB9⟩ : ∃ b, wr.heap.size = b := ⟨_, rfl⟩
        obtain ⟨Y6, hY6⟩ : ∃ Y, wr.alloc (.cells #[.slice ra5 D.length rc5, .slice za5 p zc5, .slice la5 m lc5, .slice sa5 0 sc5] 27) = Y := ⟨_, rfl⟩
        rw [hY6] at K6 ⊢
        rw [hB9] at K6 ⊢
        clear hB9 hY6 q0 q1 q2 q3 KR
        obtain ⟨y0, y1, y2, y3⟩ := row4 (K6.out.at 0 rfl)
        obtain ⟨r7, hr7, e7⟩ := HX.out.ru
        obtain ⟨v7, t7, s7, n7, xs7⟩ := r7
        unfold shape at e7
        simp only [Prod.mk.injEq] at e7
        obtain ⟨ev, et, es, en⟩ := e7
        have en2 := en.symm
        subst en2
        subst ev et es
        obtain ⟨X7, R7, hrun7, hs7, hm7, hk7⟩ := clear_row (t := 22) (ty := 0) K6.out hr7 Tryd.underlying22 (zero_of info_rules) (by rfl) (by decide)
        have K7 := Lib.hid hk7
        have HX7 := Lib.hid (HX.out.next hs7 hm7 (.inl (by show (36 : TypeId) ≠ 40; decide)))
        have H47 := Lib.hid (fun q => (H4.out q).next hs7 hm7 (.inl (by show (36 : TypeId) ≠ 40; decide)))
        dsimp only at hrun7
        clear hs7 hm7 hk7 hr7
        go_upto_region 10 with fail
        clear y0 y1 y2 y3 hrun7 K6 HX H4
        obtain ⟨y0, y1, y2, y3⟩ := row4 (K7.out.at 0 rfl)
        obtain ⟨r8, hr8, e8⟩ := HX7.out.lk
        obtain ⟨v8, t8, s8, n8, xs8⟩ := r8
        unfold shape at e8
        simp only [Prod.mk.injEq] at e8
        obtain ⟨ev, et, es, en⟩ := e8
        have en2 := en.symm
        subst en2
        subst ev et es
        obtain ⟨X8, R8, hrun8, hs8, hm8, hk8⟩ := clear_row (t := 24) (ty := 0) K7.out hr8 Tryd.underlying24 (zero_of infoLn) (by rfl) (by decide)
        have K8 := Lib.hid hk8
        have HX8 := Lib.hid (HX7.out.next hs8 hm8 (.inl (by show (43 : TypeId) ≠ 40; decide)))
        have H48 := Lib.hid (fun q => (H47.out q).next hs8 hm8 (.inl (by show (43 : TypeId) ≠ 40; decide)))
        dsimp only at hrun8
        clear hs8 hm8 hk8 hr8
        go_upto_region 11 with fail
        clear y0 y1 y2 y3 hrun8 K7 HX7 H47
        obtain ⟨gz, rfl, -⟩ := own_some (K8.out.own _ HX8.out.zo) (show 0 < p by omega)
        obtain ⟨y0, y1, y2, y3⟩ := row4 (K8.out.at 0 rfl)
        go_wp2_with fail
        clear y0 y1 y2 y3
        go_loopw [11, 58] (fun _ i58 wx => ∃ (j : Nat) (R : List Rw), j ≤ p ∧ i58 = .int .i64 (j : Int) ∧ XOk R ra5 (some ⟨gz, 0, none⟩) la5 D.length rc5 p zc5 m lc5 Q5 ∧ (i ≤ 1 → XOk R ra4 za4 la4 D.length rc4 p zc4 m lc4 Q4) ∧ Kp [(B9, .cells #[.slice ra5 D.length rc5, .slice (some ⟨gz, 0, none⟩) p zc5, .slice la5 m lc5, .slice sa5 0 sc5] 27), (AB, .cells #[.slice ra3 D.length rc3, .slice za3 p zc3, .slice la3 m lc3, .slice sa3 0 sc3, .slice ra4 D.length rc4, .slice za4 p zc4, .slice la4 m lc4, .slice sa4 0 sc4] 27)] R wc wx) (fun _ i58 _ => p - (intOf i58).toNat)
        case atStart => exact ⟨0, R8, by omega, rfl, HX8.out, H48.out, K8.out⟩
        case round =>
          clear K8 HX8 H48
          obtain ⟨j, R, hj, rfl, hx, h4, hk⟩ := hrel
          have HX := Lib.hid hx
          have H4 := Lib.hid h4
          have KJ := Lib.hid hk
          by_cases hltj : j < p
          · have hjI : (j : Int) < (p : Int) := by omega
            obtain ⟨o, ho⟩ : ∃ o, Q5[j]? = some o := ⟨_, List.getElem?_eq_getElem (by rw [hx.len]; exact hltj)⟩
            have c0 := own_cell (hk.own _ hx.zo) (zo_at Q5 ho).1
            have c1 := own_cell (hk.own _ hx.zo) (zo_at Q5 ho).2
            have HS := Lib.hid (hx.er o (List.mem_of_getElem? ho))
            obtain ⟨on, oa, om, oc⟩ := o
            dsimp only at c0 c1
            rw [Nat.add_zero] at c0
            obtain ⟨so, hso⟩ : ∃ s, bs on = s := ⟨_, rfl⟩
            rw [hso] at c0
            have K6 := Lib.hid (hk.allocAt _ rfl (.cells #[.string so, .slice oa om oc] 40))
            clear hx h4 hk ho hso
            go_upto_region 14 with fail
            obtain ⟨BZ, hBZ⟩ : ∃ b, wr.heap.size = b := ⟨_, rfl⟩
            obtain ⟨Y6, hY6⟩ : ∃ Y, wr.alloc (.cells #[.string so, .slice oa om oc] 40) = Y := ⟨_, rfl⟩
            rw [hY6] at K6 ⊢
            rw [hBZ] at K6 ⊢
            clear hBZ hY6 c0 c1 KJ
            obtain ⟨y0, y1⟩ := row2 (K6.out.at 0 rfl)
            obtain ⟨r7, hr7, e7⟩ := HS.out
            obtain ⟨v7, t7, s7, n7, xs7⟩ := r7
            dsimp only at e7
            obtain ⟨ev, et, es⟩ := e7
            subst ev et es
            obtain ⟨X7, R7, hrun7, hs7, hm7, hk7⟩ := clear_row (t := 38) (ty := 0) K6.out hr7 Tryd.underlying38 (zero_of info_eras) (by rfl) (by decide)
            have K7 := Lib.hid hk7
            have HX7 := Lib.hid (HX.out.next hs7 hm7 (.inl (by show (81 : TypeId) ≠ 40; decide)))
            have H47 := Lib.hid (fun q => (H4.out q).next hs7 hm7 (.inl (by show (81 : TypeId) ≠ 40; decide)))
            dsimp only at hrun7
            clear hs7 hm7 hk7 hr7
            go_upto_region 15 with fail
            clear y0 y1 hrun7 K6 HX H4
            have hwj := IntWalk.i64_in ((j : Int) + 1) (by omega)
            go_wp2_with fail
            go_roundw
            case rel => exact ⟨j + 1, R7, by omega, by go_num, HX7.out, H47.out, K7.out.drop⟩
            case measure => simp [intOf]; omega
          · obtain rfl : p = j := by omega
            clear hx h4 hk
            obtain ⟨y0, y1, y2, y3⟩ := row4 (KJ.out.at 0 rfl)
            obtain ⟨X7, R7, hrun7, hs7, hm7, hk7⟩ := clear_row (t := 23) (ty := 0) KJ.out HX.out.zo Tryd.underlying23 (zero_of infoZn) (by rfl) (by decide)
            have K7 := Lib.hid hk7
            have H47 := Lib.hid (fun (q : i = 0) => (H4.out (by omega)).next hs7 hm7 (.inr (HNX.out q)))
            dsimp only at hrun7
            clear hs7 hm7 hk7
            go_upto_region 17 with fail
            clear y0 y1 y2 y3 hrun7 KJ HX H4
            have hwi := IntWalk.i64_in ((i : Int) + 1) (by omega)
            go_wp2_with fail
            go_roundw
            case rel => exact ⟨i + 1, R7, by omega, by go_num, (fun q => by omega), (fun q => H47.out (by omega)), K7.out.drop⟩
            case measure => simp [intOf]; omega
      · obtain rfl : 2 = i := by omega
        clear h3 h4 hk H4
        obtain ⟨x0, x1, x2, x3⟩ := HKS.out _ KR.out.below
        obtain ⟨y0, y1, y2, y3⟩ := HKU.out _ KR.out.below
        have CA := Lib.hid (same_A (HP1.out.keep KR.out.below).A (HP2.out.keep KR.out.below).A)
        have CW := Lib.hid works35_any
        go_wp2_with (first
          | (go_at_call 16; refine CA.out.mono ?_; rintro e X7 ⟨rfl, hb⟩; have K7 := Lib.hid (KR.out.keep hb); clear hb CA)
          | (go_at_call 9; refine (CW.out _).mono ?_; rintro e X8 ⟨rfl, hb⟩; have K8 := Lib.hid (K7.out.keep hb); clear hb CW))
        exact bodyPost_ret (v := .bool true) (by simp [results, Tryd.results6, go_sem]) rfl ⟨rfl, HB1.out.trans (K8.out.below.mono HB1.out.size)⟩
end Go.Proofs.YtnffecoohkanhaaDoor.Px
