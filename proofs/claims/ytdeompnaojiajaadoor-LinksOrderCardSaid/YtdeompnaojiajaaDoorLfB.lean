/- The law LinksOrder of chapter 15, walked: the order of links and zones does not matter. -/
import Derived.Test.YtdeompnaojiajaaDoorLeA
import Derived.Test.YtdeompnaojiajaaDoorLfP
import Derived.Deep.RegionHeld3
namespace Go.Proofs.YtdeompnaojiajaaDoor.Px
open Go.RowKit
open Go.Maps (Keyed)
open Lk Ld

theorem Kp.permL {L M : List (Nat × Obj)} {R : List Rw} {w X : World} (h : Kp L R w X) (hp : M.Perm L) : Kp M R w X :=
  ⟨⟨h.known.below, fun k b o hk => by
    obtain ⟨j, hj, e⟩ := List.getElem_of_mem (hp.subset (List.mem_of_getElem? hk))
    exact h.at j (by rw [List.getElem?_eq_getElem hj, e]), fun p hq => h.known.own p (hp.subset hq), (hp.pairwise_iff (fun {_ _} hab => hab.symm)).2 h.known.desc⟩, h.own, fun r hr g hg p hq => h.offL r hr g hg p (hp.subset hq), h.offR⟩
set_option maxHeartbeats 8000000 in
set_option maxRecDepth 100000 in
theorem order_any (z l t by1 zo : Nat) (To : List Nat) (tv : Value) (W : World) (hz : z < 256) (hl : l < 256) (ht : t < 256) (hby : by1 < 256) (hzo : zo < 256) (hT : SlV W tv 1 To.length (To.map u8v)) (hTo : ∀ b ∈ To, b < 256) (hE : EnvAt W) :
    Calls Tryd.prog 5 #[.agg #[.int .u8 (z : Int), .int .u8 (l : Int), tv, .int .u8 (t : Int)], .int .u8 (by1 : Int), .int .u8 (zo : Int)] W fun e w' => e = .returned (.bool true) ∧ Below W.heap.size W w' := by
  have CM := Lib.hid (fun (Y : World) (hB : Below W.heap.size W Y) => made_any z l t To tv Y hz hl ht (hT.keep hB) hTo (hE.keep hB))
  obtain ⟨n, hn⟩ : ∃ n, 1 + z % 6 = n := ⟨_, rfl⟩
  obtain ⟨m, hm⟩ : ∃ m, l % 13 = m := ⟨_, rfl⟩
  obtain ⟨k, hk⟩ : ∃ k, t % m = k := ⟨_, rfl⟩
  rw [hn, hm, hk] at CM
  obtain ⟨Ls, hLs⟩ : ∃ L, rot k (lkN n m To) = L := ⟨_, rfl⟩
  obtain ⟨Zn, hZn⟩ : ∃ L, zN n t = L := ⟨_, rfl⟩
  rw [hLs, hZn] at CM
  have hn1 : 1 ≤ n := by omega
  have hn6 : n ≤ 6 := by omega
  have hm12 : m ≤ 12 := by omega
  have HLs := Lib.hid hLs
  have HZn := Lib.hid hZn
  have HZl := Lib.hid (show Zn.length = n by rw [← hZn]; exact zN_len)
  have HLl := Lib.hid (show Ls.length = m by rw [← hLs]; exact made_len)
  have HZb := Lib.hid (show ∀ x ∈ Zn, x.length ≤ 100 by rw [← hZn]; exact z_small hn6)
  have HLb := Lib.hid (show ∀ p ∈ Ls, p.1.length ≤ 100 ∧ p.2.length ≤ 100 by rw [← hLs]; exact l_small hn1 hn6 hm12)
  obtain ⟨ta, tc, rfl, htc1, htc2⟩ := hT.slA
  obtain ⟨q, hq⟩ : ∃ q, To.length = q := ⟨_, rfl⟩
  rw [hq] at CM ⊢
  have K0 := Lib.hid ((Kp.start W).allocAt W.heap.size rfl (.cells #[.int .u8 (z : Int), .int .u8 (l : Int), .slice ta q tc, .int .u8 (t : Int)] 50))
  obtain ⟨W1, hW1⟩ : ∃ X, W.alloc (.cells #[.int .u8 (z : Int), .int .u8 (l : Int), .slice ta q tc, .int .u8 (t : Int)] 50) = X := ⟨_, rfl⟩
  rw [hW1] at K0
  obtain ⟨v0, v1, v2, v3⟩ := row4 (K0.out.at 0 rfl)
  obtain ⟨kz, hkz⟩ : ∃ i, zo % n = i := ⟨_, rfl⟩
  obtain ⟨kb, hkb⟩ : ∃ i, by1 % m = i := ⟨_, rfl⟩
  have hkzn : kz < n := by rw [← hkz]; exact Nat.mod_lt _ (by omega)
  have hkT : (zo : Int).tmod (n : Int) = (kz : Int) := by rw [← hkz, Int.tmod_eq_emod_of_nonneg (by omega)]; simp
  have hkI : (zo : Int) % (n : Int) = (kz : Int) := by rw [← hkz]; simp
  obtain ⟨Z2, hZ2⟩ : ∃ Z, rot kz Zn = Z := ⟨_, rfl⟩
  obtain ⟨L2, hL2⟩ : ∃ L, rot kb Ls = L := ⟨_, rfl⟩
  have eZ2 : Z2 = zN n (t + kz) := by rw [← hZ2, ← hZn]; exact rot_zN (by omega)
  have eL2 : ∃ k', L2 = rot k' (lkN n m To) := by
    rw [← hL2, ← hLs]
    by_cases h0 : m = 0
    · refine ⟨0, ?_⟩
      have e : lkN n m To = [] := by rw [h0]; rfl
      rw [e]
      unfold rot
      simp
    · have hlen : (lkN n m To).length = m := by unfold lkN; rw [List.length_map, List.length_range]
      refine ⟨(kb + k) % m, ?_⟩
      have hkk : k < m := by rw [← hk]; exact Nat.mod_lt _ (by omega)
      have hbb : kb < m := by rw [← hkb]; exact Nat.mod_lt _ (by omega)
      have := rot_rot (l := lkN n m To) (k := k) (j := kb) (by omega) (by omega) (by omega)
      rw [hlen] at this
      exact this
  obtain ⟨k', ek'⟩ := eL2
  have HF2 := Lib.hid (show checkL Z2 L2 zoneOk = ((0, 0), 0) by rw [eZ2, ek']; exact made_fine hn1 hn6 hm12)
  obtain ⟨A, hA⟩ : ∃ A, namesL Zn Ls = A := ⟨_, rfl⟩
  have HA := Lib.hid hA
  have HA2 := Lib.hid (show namesL Z2 L2 = A by rw [← hA, eZ2, ek', ← hZn, ← hLs]; exact names_same)
  have HFx := Lib.hid (show ∀ x ∈ A, ∃ i j, i < n ∧ j < n ∧ findL Zn Ls x = (i, 0) ∧ findL Z2 L2 x = (j, 0) ∧ Zn.getD i [] = Z2.getD j [] by
    intro x hx
    rw [← hA, ← hZn, ← hLs, names_mem] at hx
    obtain ⟨j, hj, hf⟩ := find_same hn1 hm12 hx
    obtain ⟨h1, h2⟩ := idx_zN (t := t) hj
    obtain ⟨h3, h4⟩ := idx_zN (t := t + kz) hj
    exact ⟨_, _, h1, h3, by rw [← hZn, ← hLs]; exact hf _ _, by rw [eZ2, ek']; exact hf _ _, by rw [← hZn, eZ2, h2, h4]⟩)
  have HAl := Lib.hid (show ∀ x ∈ A, x.length ≤ 100 by
    intro x hx
    rw [← hA, names_mem] at hx
    rcases hx with hx | hx
    · exact HZb.out x hx
    · obtain ⟨p, hp, rfl⟩ := List.mem_map.1 hx
      exact (HLb.out p hp).1)
  obtain ⟨N, hN⟩ : ∃ N, A.length = N := ⟨_, rfl⟩
  have hNb : N ≤ 18 := by
    have h := names_len (n := n) (m := m) (t := t) (k := k) (To := To) hn6 hm12
    rw [hZn, hLs, hA, hN] at h
    omega
  have HN := Lib.hid hN
  have HZ2 := Lib.hid hZ2
  have HL2 := Lib.hid hL2
  have HZ2l := Lib.hid (show Z2.length = n by rw [eZ2]; exact zN_len)
  have HL2l := Lib.hid (show L2.length = m by rw [ek']; exact made_len)
  have HZ2b := Lib.hid (show ∀ x ∈ Z2, x.length ≤ 100 by rw [eZ2]; exact z_small hn6)
  have HL2b := Lib.hid (show ∀ p ∈ L2, p.1.length ≤ 100 ∧ p.2.length ≤ 100 by rw [ek']; exact l_small hn1 hn6 hm12)
  have HKB := Lib.hid hkb
  have hn0 : ¬ (n : Int) = 0 := by omega
  have hn00 : ¬ n = 0 := by omega
  have hwz : IntKind.i64.wrap (zo : Int) = (zo : Int) := IntWalk.i64_in _ (by omega)
  have hwb : IntKind.i64.wrap (by1 : Int) = (by1 : Int) := IntWalk.i64_in _ (by omega)
  have hwk : IntKind.i64.wrap (kz : Int) = (kz : Int) := IntWalk.i64_in _ (by omega)
  clear hn hm hk hT hTo hE hq hLs hZn hkz hkb hZ2 hL2 eZ2 ek' hA hN
  have CW := Lib.hid works_any
  go_enter Tryd.func5, Tryd.ntmps5
  go_upto_region 1 with fail
  clear hW1
  have KD := Lib.hid K0.out.drew
  go_cut [7, 8] from 18 to 22 (fun v7 v8 wx => ∃ (S T : Nat) (az al az2 al2 : Option Addr) (cz cl cz2 cl2 : Nat), v7 = .pointer (some ⟨S, 0, none⟩) ∧ v8 = .pointer (some ⟨T, 0, none⟩) ∧ Kp [(T, .cells #[.slice none 0 0, .slice az2 n cz2, .slice al2 m cl2, .slice none 0 0] 27 (0, 0)), (S, .cells #[.slice none 0 0, .slice az n cz, .slice al m cl, .slice none 0 0] 27 (0, 0)), (W.heap.size, .cells #[.int .u8 (z : Int), .int .u8 (l : Int), .slice ta q tc, .int .u8 (t : Int)] 50 (0, 0))] [⟨.slice al2 m cl2, 36, 2, m, Ls.flatMap kcells⟩, ⟨.slice az2 n cz2, 33, 2, n, (zos Zn).flatMap zcells⟩, ⟨.slice al m cl, 36, 2, m, Ls.flatMap kcells⟩, ⟨.slice az n cz, 33, 2, n, (zos Zn).flatMap zcells⟩] W wx)
  case first =>
    refine wp_region_noPanic ?_
    refine wp_region_held_drew (S := fun w' => w'.cell? ⟨W.heap.size, 0, none⟩ = some (.int .u8 (z : Int)) ∧ w'.cell? ⟨W.heap.size, 1, none⟩ = some (.int .u8 (l : Int)) ∧ w'.cell? ⟨W.heap.size, 2, none⟩ = some (.slice ta q tc) ∧ w'.cell? ⟨W.heap.size, 3, none⟩ = some (.int .u8 (t : Int))) (by kernel_rfl) (row4 (KD.out.at 0 rfl)) (fun hHeld => ?_)
    obtain ⟨Y0, hY0⟩ : ∃ Y, W1.drew = Y := ⟨_, rfl⟩
    rw [hY0] at KD hHeld ⊢
    clear hY0
    refine wpAnyH_take (i := 0) (v := .agg #[.int .u8 (z : Int), .int .u8 (l : Int), .slice ta q tc, .int .u8 (t : Int)]) rfl (by kernel_rfl) (by kernel_rfl) (by kernel_rfl) (fun _ _ _ h => h) (Or.inl ⟨by rfl, ?_⟩) (by assumption) ?_
    · intro w hSw
      obtain ⟨s0, s1, s2, s3⟩ := hSw
      go_simp
    (try simp only [Act.put, List.setIfInBounds_toArray])
    refine wpAnyH_take (i := 2) (v := .agg #[.int .u8 (z : Int), .int .u8 (l : Int), .slice ta q tc, .int .u8 (t : Int)]) rfl (by kernel_rfl) (by kernel_rfl) (by kernel_rfl) (fun _ _ _ h => h) (Or.inl ⟨by rfl, ?_⟩) (by assumption) ?_
    · intro w hSw
      obtain ⟨s0, s1, s2, s3⟩ := hSw
      go_simp
    (try simp only [Act.put])
    clear hHeld
    refine wpAnyH_ready (rs := [1, 4, 5]) (by kernel_rfl) (by simp) ?_
    refine AllReadyH.cons rfl (fun K hK => ?_) ?_
    case refine_1 =>
      go_simp
      go_at_call 20
      refine (CM.out _ KD.out.below).mono ?_
      rintro e X1 ⟨zv, lv, rfl, hk⟩
      obtain ⟨az1, cz1, rfl⟩ : ∃ a c, zv = .slice a n c := own_slice (hk.row 1 rfl)
      obtain ⟨al1, cl1, rfl⟩ : ∃ a c, lv = .slice a m c := own_slice (hk.row 0 rfl)
      have K1 := Lib.hid (KD.out.adopt hk)
      clear hk
      (try go_wp2_with fail)
      refine hK.out _ _ ?_ (fun hHeld => ?_)
      · exact row4 (K1.out.at 0 rfl)
      clear hHeld hK K
      (try simp only [Act.put, List.setIfInBounds_toArray, List.set_cons_zero, List.set_cons_succ])
      refine wpAnyH_ready (rs := [3, 4, 5]) (by kernel_rfl) (by simp) ?_
      refine AllReadyH.cons rfl (fun K hK => ?_) ?_
      case refine_1 =>
        go_simp
        go_at_call 20
        refine (CM.out _ K1.out.below).mono ?_
        rintro e X2 ⟨zv, lv, rfl, hk⟩
        obtain ⟨az2, cz2, rfl⟩ : ∃ a c, zv = .slice a n c := own_slice (hk.row 1 rfl)
        obtain ⟨al2, cl2, rfl⟩ : ∃ a c, lv = .slice a m c := own_slice (hk.row 0 rfl)
        have K2 := Lib.hid (K1.out.adopt hk)
        clear hk
        (try go_wp2_with fail)
        refine hK.out _ _ ?_ (fun hHeld => ?_)
        · exact row4 (K2.out.at 0 rfl)
        clear hHeld hK K
        (try simp only [Act.put, List.setIfInBounds_toArray, List.set_cons_zero, List.set_cons_succ])
        refine wpAnyH_ready (rs := [4, 5]) (by kernel_rfl) (by simp) ?_
        refine AllReadyH.cons rfl (fun K hK => ?_) ?_
        case refine_1 =>
          have K3 := Lib.hid (K2.out.alloc (.cells #[.slice none 0 0, .slice none 0 0, .slice none 0 0, .slice none 0 0] 27))
          go_simp
          refine hK.out _ _ ?_ (fun hHeld => ?_)
          · exact row4 (K3.out.at 1 rfl)
          clear hHeld hK K
          (try simp only [Act.put, List.setIfInBounds_toArray, List.set_cons_zero, List.set_cons_succ])
          obtain ⟨S, hS⟩ : ∃ b, X2.heap.size = b := ⟨_, rfl⟩
          obtain ⟨Y3, hY⟩ : ∃ Y, X2.alloc (.cells #[.slice none 0 0, .slice none 0 0, .slice none 0 0, .slice none 0 0] 27) = Y := ⟨_, rfl⟩
          rw [hY] at K3 ⊢
          rw [hS] at K3 ⊢
          clear hY hS
          refine wpAnyH_ready (rs := [5]) (by kernel_rfl) (by simp) ?_
          refine AllReadyH.cons rfl (fun K hK => ?_) ?_
          case refine_1 =>
            have K4 := Lib.hid (K3.out.alloc (.cells #[.slice none 0 0, .slice none 0 0, .slice none 0 0, .slice none 0 0] 27))
            go_simp
            refine hK.out _ _ ?_ (fun hHeld => ?_)
            · exact row4 (K4.out.at 2 rfl)
            clear hHeld hK K
            (try simp only [Act.put, List.setIfInBounds_toArray, List.set_cons_zero, List.set_cons_succ])
            obtain ⟨T, hT⟩ : ∃ b, Y3.heap.size = b := ⟨_, rfl⟩
            obtain ⟨Y4, hY⟩ : ∃ Y, Y3.alloc (.cells #[.slice none 0 0, .slice none 0 0, .slice none 0 0, .slice none 0 0] 27) = Y := ⟨_, rfl⟩
            rw [hY] at K4 ⊢
            rw [hT] at K4 ⊢
            clear hY hT
            refine wpAnyH_ready (rs := [6]) (by kernel_rfl) (by simp) ?_
            refine AllReadyH.cons rfl (fun K hK => ?_) ?_
            case refine_1 =>
              obtain ⟨s0, s1, s2, s3⟩ := row4 (K4.out.at 1 rfl)
              have f0 := free_at (K4.out.at 1 rfl) 0
              have f1 := free_at (K4.out.at 1 rfl) 1
              have f2 := free_at (K4.out.at 1 rfl) 2
              have f3 := free_at (K4.out.at 1 rfl) 3
              have K5 := Lib.hid ((((K4.out.set 1 rfl 0 (.slice none 0 0) rfl).set 1 rfl 1 (.slice az1 n cz1) rfl).set 1 rfl 2 (.slice al1 m cl1) rfl).set 1 rfl 3 (.slice none 0 0) rfl)
              go_simp
              clear s0 s1 s2 s3 f0 f1 f2 f3
              refine hK.out _ _ ?_ (fun hHeld => ?_)
              · exact row4 (K5.out.at 2 rfl)
              clear hHeld hK K
              (try simp only [Act.put, List.setIfInBounds_toArray, List.set_cons_zero, List.set_cons_succ])
              obtain ⟨Y5, hY⟩ : ∃ Y, ((((Y4.setCell ⟨S, 0, none⟩ (.slice none 0 0)).setCell ⟨S, 1, none⟩ (.slice az1 n cz1)).setCell ⟨S, 2, none⟩ (.slice al1 m cl1)).setCell ⟨S, 3, none⟩ (.slice none 0 0)) = Y := ⟨_, rfl⟩
              rw [hY] at K5 ⊢
              clear hY
              refine wpAnyH_ready (rs := [7]) (by kernel_rfl) (by simp) ?_
              refine AllReadyH.cons rfl (fun K hK => ?_) ?_
              case refine_1 =>
                obtain ⟨s0, s1, s2, s3⟩ := row4 (K5.out.at 0 rfl)
                have f0 := free_at (K5.out.at 0 rfl) 0
                have f1 := free_at (K5.out.at 0 rfl) 1
                have f2 := free_at (K5.out.at 0 rfl) 2
                have f3 := free_at (K5.out.at 0 rfl) 3
                have K6 := Lib.hid ((((K5.out.set 0 rfl 0 (.slice none 0 0) rfl).set 0 rfl 1 (.slice az2 n cz2) rfl).set 0 rfl 2 (.slice al2 m cl2) rfl).set 0 rfl 3 (.slice none 0 0) rfl)
                go_simp
                clear s0 s1 s2 s3 f0 f1 f2 f3
                refine hK.out _ _ ?_ (fun hHeld => ?_)
                · exact row4 (K6.out.at 2 rfl)
                clear hHeld hK K
                (try simp only [Act.put, List.setIfInBounds_toArray, List.set_cons_zero, List.set_cons_succ])
                obtain ⟨Y6, hY⟩ : ∃ Y, ((((Y5.setCell ⟨T, 0, none⟩ (.slice none 0 0)).setCell ⟨T, 1, none⟩ (.slice az2 n cz2)).setCell ⟨T, 2, none⟩ (.slice al2 m cl2)).setCell ⟨T, 3, none⟩ (.slice none 0 0)) = Y := ⟨_, rfl⟩
                rw [hY] at K6 ⊢
                clear hY
                refine wpAnyH_done (by kernel_rfl) ?_ _
                refine NoPanic.normal ?_
                (try go_wp2_with fail)
                go_meet
                exact ⟨S, T, _, _, _, _, _, _, _, _, rfl, rfl, K6.out.permL (List.Perm.refl _)⟩
              exact AllReadyH.nil
            exact AllReadyH.nil
          exact AllReadyH.nil
        refine AllReadyH.cons rfl (fun K hK => ?_) ?_
        case refine_1 =>
          have K7 := Lib.hid (K2.out.alloc (.cells #[.slice none 0 0, .slice none 0 0, .slice none 0 0, .slice none 0 0] 27))
          go_simp
          refine hK.out _ _ ?_ (fun hHeld => ?_)
          · exact row4 (K7.out.at 1 rfl)
          clear hHeld hK K
          (try simp only [Act.put, List.setIfInBounds_toArray, List.set_cons_zero, List.set_cons_succ])
          obtain ⟨T, hT⟩ : ∃ b, X2.heap.size = b := ⟨_, rfl⟩
          obtain ⟨Y7, hY⟩ : ∃ Y, X2.alloc (.cells #[.slice none 0 0, .slice none 0 0, .slice none 0 0, .slice none 0 0] 27) = Y := ⟨_, rfl⟩
          rw [hY] at K7 ⊢
          rw [hT] at K7 ⊢
          clear hY hT
          refine wpAnyH_ready (rs := [4]) (by kernel_rfl) (by simp) ?_
          refine AllReadyH.cons rfl (fun K hK => ?_) ?_
          case refine_1 =>
            have K8 := Lib.hid (K7.out.alloc (.cells #[.slice none 0 0, .slice none 0 0, .slice none 0 0, .slice none 0 0] 27))
            go_simp
            refine hK.out _ _ ?_ (fun hHeld => ?_)
            · exact row4 (K8.out.at 2 rfl)
            clear hHeld hK K
            (try simp only [Act.put, List.setIfInBounds_toArray, List.set_cons_zero, List.set_cons_succ])
            obtain ⟨S, hS⟩ : ∃ b, Y7.heap.size = b := ⟨_, rfl⟩
            obtain ⟨Y8, hY⟩ : ∃ Y, Y7.alloc (.cells #[.slice none 0 0, .slice none 0 0, .slice none 0 0, .slice none 0 0] 27) = Y := ⟨_, rfl⟩
            rw [hY] at K8 ⊢
            rw [hS] at K8 ⊢
            clear hY hS
            refine wpAnyH_ready (rs := [6]) (by kernel_rfl) (by simp) ?_
            refine AllReadyH.cons rfl (fun K hK => ?_) ?_
            case refine_1 =>
              obtain ⟨s0, s1, s2, s3⟩ := row4 (K8.out.at 0 rfl)
              have f0 := free_at (K8.out.at 0 rfl) 0
              have f1 := free_at (K8.out.at 0 rfl) 1
              have f2 := free_at (K8.out.at 0 rfl) 2
              have f3 := free_at (K8.out.at 0 rfl) 3
              have K9 := Lib.hid ((((K8.out.set 0 rfl 0 (.slice none 0 0) rfl).set 0 rfl 1 (.slice az1 n cz1) rfl).set 0 rfl 2 (.slice al1 m cl1) rfl).set 0 rfl 3 (.slice none 0 0) rfl)
              go_simp
              clear s0 s1 s2 s3 f0 f1 f2 f3
              refine hK.out _ _ ?_ (fun hHeld => ?_)
              · exact row4 (K9.out.at 2 rfl)
              clear hHeld hK K
              (try simp only [Act.put, List.setIfInBounds_toArray, List.set_cons_zero, List.set_cons_succ])
              obtain ⟨Y9, hY⟩ : ∃ Y, ((((Y8.setCell ⟨S, 0, none⟩ (.slice none 0 0)).setCell ⟨S, 1, none⟩ (.slice az1 n cz1)).setCell ⟨S, 2, none⟩ (.slice al1 m cl1)).setCell ⟨S, 3, none⟩ (.slice none 0 0)) = Y := ⟨_, rfl⟩
              rw [hY] at K9 ⊢
              clear hY
              refine wpAnyH_ready (rs := [7]) (by kernel_rfl) (by simp) ?_
              refine AllReadyH.cons rfl (fun K hK => ?_) ?_
              case refine_1 =>
                obtain ⟨s0, s1, s2, s3⟩ := row4 (K9.out.at 1 rfl)
                have f0 := free_at (K9.out.at 1 rfl) 0
                have f1 := free_at (K9.out.at 1 rfl) 1
                have f2 := free_at (K9.out.at 1 rfl) 2
                have f3 := free_at (K9.out.at 1 rfl) 3
                have K10 := Lib.hid ((((K9.out.set 1 rfl 0 (.slice none 0 0) rfl).set 1 rfl 1 (.slice az2 n cz2) rfl).set 1 rfl 2 (.slice al2 m cl2) rfl).set 1 rfl 3 (.slice none 0 0) rfl)
                go_simp
                clear s0 s1 s2 s3 f0 f1 f2 f3
                refine hK.out _ _ ?_ (fun hHeld => ?_)
                · exact row4 (K10.out.at 2 rfl)
                clear hHeld hK K
                (try simp only [Act.put, List.setIfInBounds_toArray, List.set_cons_zero, List.set_cons_succ])
                obtain ⟨Y10, hY⟩ : ∃ Y, ((((Y9.setCell ⟨T, 0, none⟩ (.slice none 0 0)).setCell ⟨T, 1, none⟩ (.slice az2 n cz2)).setCell ⟨T, 2, none⟩ (.slice al2 m cl2)).setCell ⟨T, 3, none⟩ (.slice none 0 0)) = Y := ⟨_, rfl⟩
                rw [hY] at K10 ⊢
                clear hY
                refine wpAnyH_done (by kernel_rfl) ?_ _
                refine NoPanic.normal ?_
                (try go_wp2_with fail)
                go_meet
                exact ⟨S, T, _, _, _, _, _, _, _, _, rfl, rfl, K10.out.permL (List.Perm.swap _ _ _)⟩
              exact AllReadyH.nil
            exact AllReadyH.nil
          exact AllReadyH.nil
        exact AllReadyH.nil
      refine AllReadyH.cons rfl (fun K hK => ?_) ?_
      case refine_1 =>
        have K11 := Lib.hid (K1.out.alloc (.cells #[.slice none 0 0, .slice none 0 0, .slice none 0 0, .slice none 0 0] 27))
        go_simp
        refine hK.out _ _ ?_ (fun hHeld => ?_)
        · exact row4 (K11.out.at 1 rfl)
        clear hHeld hK K
        (try simp only [Act.put, List.setIfInBounds_toArray, List.set_cons_zero, List.set_cons_succ])
        obtain ⟨S, hS⟩ : ∃ b, X1.heap.size = b := ⟨_, rfl⟩
        obtain ⟨Y11, hY⟩ : ∃ Y, X1.alloc (.cells #[.slice none 0 0, .slice none 0 0, .slice none 0 0, .slice none 0 0] 27) = Y := ⟨_, rfl⟩
        rw [hY] at K11 ⊢
        rw [hS] at K11 ⊢
        clear hY hS
        refine wpAnyH_ready (rs := [3, 5]) (by kernel_rfl) (by simp) ?_
        refine AllReadyH.cons rfl (fun K hK => ?_) ?_
        case refine_1 =>
          go_simp
          go_at_call 20
          refine (CM.out _ K11.out.below).mono ?_
          rintro e X2 ⟨zv, lv, rfl, hk⟩
          obtain ⟨az2, cz2, rfl⟩ : ∃ a c, zv = .slice a n c := own_slice (hk.row 1 rfl)
          obtain ⟨al2, cl2, rfl⟩ : ∃ a c, lv = .slice a m c := own_slice (hk.row 0 rfl)
          have K12 := Lib.hid (K11.out.adopt hk)
          clear hk
          (try go_wp2_with fail)
          refine hK.out _ _ ?_ (fun hHeld => ?_)
          · exact row4 (K12.out.at 1 rfl)
          clear hHeld hK K
          (try simp only [Act.put, List.setIfInBounds_toArray, List.set_cons_zero, List.set_cons_succ])
          refine wpAnyH_ready (rs := [5]) (by kernel_rfl) (by simp) ?_
          refine AllReadyH.cons rfl (fun K hK => ?_) ?_
          case refine_1 =>
            have K13 := Lib.hid (K12.out.alloc (.cells #[.slice none 0 0, .slice none 0 0, .slice none 0 0, .slice none 0 0] 27))
            go_simp
            refine hK.out _ _ ?_ (fun hHeld => ?_)
            · exact row4 (K13.out.at 2 rfl)
            clear hHeld hK K
            (try simp only [Act.put, List.setIfInBounds_toArray, List.set_cons_zero, List.set_cons_succ])
            obtain ⟨T, hT⟩ : ∃ b, X2.heap.size = b := ⟨_, rfl⟩
            obtain ⟨Y13, hY⟩ : ∃ Y, X2.alloc (.cells #[.slice none 0 0, .slice none 0 0, .slice none 0 0, .slice none 0 0] 27) = Y := ⟨_, rfl⟩
            rw [hY] at K13 ⊢
            rw [hT] at K13 ⊢
            clear hY hT
            refine wpAnyH_ready (rs := [6]) (by kernel_rfl) (by simp) ?_
            refine AllReadyH.cons rfl (fun K hK => ?_) ?_
            case refine_1 =>
              obtain ⟨s0, s1, s2, s3⟩ := row4 (K13.out.at 1 rfl)
              have f0 := free_at (K13.out.at 1 rfl) 0
              have f1 := free_at (K13.out.at 1 rfl) 1
              have f2 := free_at (K13.out.at 1 rfl) 2
              have f3 := free_at (K13.out.at 1 rfl) 3
              have K14 := Lib.hid ((((K13.out.set 1 rfl 0 (.slice none 0 0) rfl).set 1 rfl 1 (.slice az1 n cz1) rfl).set 1 rfl 2 (.slice al1 m cl1) rfl).set 1 rfl 3 (.slice none 0 0) rfl)
              go_simp
              clear s0 s1 s2 s3 f0 f1 f2 f3
              refine hK.out _ _ ?_ (fun hHeld => ?_)
              · exact row4 (K14.out.at 2 rfl)
              clear hHeld hK K
              (try simp only [Act.put, List.setIfInBounds_toArray, List.set_cons_zero, List.set_cons_succ])
              obtain ⟨Y14, hY⟩ : ∃ Y, ((((Y13.setCell ⟨S, 0, none⟩ (.slice none 0 0)).setCell ⟨S, 1, none⟩ (.slice az1 n cz1)).setCell ⟨S, 2, none⟩ (.slice al1 m cl1)).setCell ⟨S, 3, none⟩ (.slice none 0 0)) = Y := ⟨_, rfl⟩
              rw [hY] at K14 ⊢
              clear hY
              refine wpAnyH_ready (rs := [7]) (by kernel_rfl) (by simp) ?_
              refine AllReadyH.cons rfl (fun K hK => ?_) ?_
              case refine_1 =>
                obtain ⟨s0, s1, s2, s3⟩ := row4 (K14.out.at 0 rfl)
                have f0 := free_at (K14.out.at 0 rfl) 0
                have f1 := free_at (K14.out.at 0 rfl) 1
                have f2 := free_at (K14.out.at 0 rfl) 2
                have f3 := free_at (K14.out.at 0 rfl) 3
                have K15 := Lib.hid ((((K14.out.set 0 rfl 0 (.slice none 0 0) rfl).set 0 rfl 1 (.slice az2 n cz2) rfl).set 0 rfl 2 (.slice al2 m cl2) rfl).set 0 rfl 3 (.slice none 0 0) rfl)
                go_simp
                clear s0 s1 s2 s3 f0 f1 f2 f3
                refine hK.out _ _ ?_ (fun hHeld => ?_)
                · exact row4 (K15.out.at 2 rfl)
                clear hHeld hK K
                (try simp only [Act.put, List.setIfInBounds_toArray, List.set_cons_zero, List.set_cons_succ])
                obtain ⟨Y15, hY⟩ : ∃ Y, ((((Y14.setCell ⟨T, 0, none⟩ (.slice none 0 0)).setCell ⟨T, 1, none⟩ (.slice az2 n cz2)).setCell ⟨T, 2, none⟩ (.slice al2 m cl2)).setCell ⟨T, 3, none⟩ (.slice none 0 0)) = Y := ⟨_, rfl⟩
                rw [hY] at K15 ⊢
                clear hY
                refine wpAnyH_done (by kernel_rfl) ?_ _
                refine NoPanic.normal ?_
                (try go_wp2_with fail)
                go_meet
                exact ⟨S, T, _, _, _, _, _, _, _, _, rfl, rfl, K15.out.permL (List.Perm.refl _)⟩
              exact AllReadyH.nil
            exact AllReadyH.nil
          exact AllReadyH.nil
        refine AllReadyH.cons rfl (fun K hK => ?_) ?_
        case refine_1 =>
          have K16 := Lib.hid (K11.out.alloc (.cells #[.slice none 0 0, .slice none 0 0, .slice none 0 0, .slice none 0 0] 27))
          go_simp
          refine hK.out _ _ ?_ (fun hHeld => ?_)
          · exact row4 (K16.out.at 2 rfl)
          clear hHeld hK K
          (try simp only [Act.put, List.setIfInBounds_toArray, List.set_cons_zero, List.set_cons_succ])
          obtain ⟨T, hT⟩ : ∃ b, Y11.heap.size = b := ⟨_, rfl⟩
          obtain ⟨Y16, hY⟩ : ∃ Y, Y11.alloc (.cells #[.slice none 0 0, .slice none 0 0, .slice none 0 0, .slice none 0 0] 27) = Y := ⟨_, rfl⟩
          rw [hY] at K16 ⊢
          rw [hT] at K16 ⊢
          clear hY hT
          refine wpAnyH_ready (rs := [3]) (by kernel_rfl) (by simp) ?_
          refine AllReadyH.cons rfl (fun K hK => ?_) ?_
          case refine_1 =>
            go_simp
            go_at_call 20
            refine (CM.out _ K16.out.below).mono ?_
            rintro e X2 ⟨zv, lv, rfl, hk⟩
            obtain ⟨az2, cz2, rfl⟩ : ∃ a c, zv = .slice a n c := own_slice (hk.row 1 rfl)
            obtain ⟨al2, cl2, rfl⟩ : ∃ a c, lv = .slice a m c := own_slice (hk.row 0 rfl)
            have K17 := Lib.hid (K16.out.adopt hk)
            clear hk
            (try go_wp2_with fail)
            refine hK.out _ _ ?_ (fun hHeld => ?_)
            · exact row4 (K17.out.at 2 rfl)
            clear hHeld hK K
            (try simp only [Act.put, List.setIfInBounds_toArray, List.set_cons_zero, List.set_cons_succ])
            refine wpAnyH_ready (rs := [6]) (by kernel_rfl) (by simp) ?_
            refine AllReadyH.cons rfl (fun K hK => ?_) ?_
            case refine_1 =>
              obtain ⟨s0, s1, s2, s3⟩ := row4 (K17.out.at 1 rfl)
              have f0 := free_at (K17.out.at 1 rfl) 0
              have f1 := free_at (K17.out.at 1 rfl) 1
              have f2 := free_at (K17.out.at 1 rfl) 2
              have f3 := free_at (K17.out.at 1 rfl) 3
              have K18 := Lib.hid ((((K17.out.set 1 rfl 0 (.slice none 0 0) rfl).set 1 rfl 1 (.slice az1 n cz1) rfl).set 1 rfl 2 (.slice al1 m cl1) rfl).set 1 rfl 3 (.slice none 0 0) rfl)
              go_simp
              clear s0 s1 s2 s3 f0 f1 f2 f3
              refine hK.out _ _ ?_ (fun hHeld => ?_)
              · exact row4 (K18.out.at 2 rfl)
              clear hHeld hK K
              (try simp only [Act.put, List.setIfInBounds_toArray, List.set_cons_zero, List.set_cons_succ])
              obtain ⟨Y18, hY⟩ : ∃ Y, ((((X2.setCell ⟨S, 0, none⟩ (.slice none 0 0)).setCell ⟨S, 1, none⟩ (.slice az1 n cz1)).setCell ⟨S, 2, none⟩ (.slice al1 m cl1)).setCell ⟨S, 3, none⟩ (.slice none 0 0)) = Y := ⟨_, rfl⟩
              rw [hY] at K18 ⊢
              clear hY
              refine wpAnyH_ready (rs := [7]) (by kernel_rfl) (by simp) ?_
              refine AllReadyH.cons rfl (fun K hK => ?_) ?_
              case refine_1 =>
                obtain ⟨s0, s1, s2, s3⟩ := row4 (K18.out.at 0 rfl)
                have f0 := free_at (K18.out.at 0 rfl) 0
                have f1 := free_at (K18.out.at 0 rfl) 1
                have f2 := free_at (K18.out.at 0 rfl) 2
                have f3 := free_at (K18.out.at 0 rfl) 3
                have K19 := Lib.hid ((((K18.out.set 0 rfl 0 (.slice none 0 0) rfl).set 0 rfl 1 (.slice az2 n cz2) rfl).set 0 rfl 2 (.slice al2 m cl2) rfl).set 0 rfl 3 (.slice none 0 0) rfl)
                go_simp
                clear s0 s1 s2 s3 f0 f1 f2 f3
                refine hK.out _ _ ?_ (fun hHeld => ?_)
                · exact row4 (K19.out.at 2 rfl)
                clear hHeld hK K
                (try simp only [Act.put, List.setIfInBounds_toArray, List.set_cons_zero, List.set_cons_succ])
                obtain ⟨Y19, hY⟩ : ∃ Y, ((((Y18.setCell ⟨T, 0, none⟩ (.slice none 0 0)).setCell ⟨T, 1, none⟩ (.slice az2 n cz2)).setCell ⟨T, 2, none⟩ (.slice al2 m cl2)).setCell ⟨T, 3, none⟩ (.slice none 0 0)) = Y := ⟨_, rfl⟩
                rw [hY] at K19 ⊢
                clear hY
                refine wpAnyH_done (by kernel_rfl) ?_ _
                refine NoPanic.normal ?_
                (try go_wp2_with fail)
                go_meet
                exact ⟨S, T, _, _, _, _, _, _, _, _, rfl, rfl, K19.out.permL (List.Perm.refl _)⟩
              exact AllReadyH.nil
            exact AllReadyH.nil
          exact AllReadyH.nil
        exact AllReadyH.nil
      refine AllReadyH.cons rfl (fun K hK => ?_) ?_
      case refine_1 =>
        have K20 := Lib.hid (K1.out.alloc (.cells #[.slice none 0 0, .slice none 0 0, .slice none 0 0, .slice none 0 0] 27))
        go_simp
        refine hK.out _ _ ?_ (fun hHeld => ?_)
        · exact row4 (K20.out.at 1 rfl)
        clear hHeld hK K
        (try simp only [Act.put, List.setIfInBounds_toArray, List.set_cons_zero, List.set_cons_succ])
        obtain ⟨T, hT⟩ : ∃ b, X1.heap.size = b := ⟨_, rfl⟩
        obtain ⟨Y20, hY⟩ : ∃ Y, X1.alloc (.cells #[.slice none 0 0, .slice none 0 0, .slice none 0 0, .slice none 0 0] 27) = Y := ⟨_, rfl⟩
        rw [hY] at K20 ⊢
        rw [hT] at K20 ⊢
        clear hY hT
        refine wpAnyH_ready (rs := [3, 4]) (by kernel_rfl) (by simp) ?_
        refine AllReadyH.cons rfl (fun K hK => ?_) ?_
        case refine_1 =>
          go_simp
          go_at_call 20
          refine (CM.out _ K20.out.below).mono ?_
          rintro e X2 ⟨zv, lv, rfl, hk⟩
          obtain ⟨az2, cz2, rfl⟩ : ∃ a c, zv = .slice a n c := own_slice (hk.row 1 rfl)
          obtain ⟨al2, cl2, rfl⟩ : ∃ a c, lv = .slice a m c := own_slice (hk.row 0 rfl)
          have K21 := Lib.hid (K20.out.adopt hk)
          clear hk
          (try go_wp2_with fail)
          refine hK.out _ _ ?_ (fun hHeld => ?_)
          · exact row4 (K21.out.at 1 rfl)
          clear hHeld hK K
          (try simp only [Act.put, List.setIfInBounds_toArray, List.set_cons_zero, List.set_cons_succ])
          refine wpAnyH_ready (rs := [4]) (by kernel_rfl) (by simp) ?_
          refine AllReadyH.cons rfl (fun K hK => ?_) ?_
          case refine_1 =>
            have K22 := Lib.hid (K21.out.alloc (.cells #[.slice none 0 0, .slice none 0 0, .slice none 0 0, .slice none 0 0] 27))
            go_simp
            refine hK.out _ _ ?_ (fun hHeld => ?_)
            · exact row4 (K22.out.at 2 rfl)
            clear hHeld hK K
            (try simp only [Act.put, List.setIfInBounds_toArray, List.set_cons_zero, List.set_cons_succ])
            obtain ⟨S, hS⟩ : ∃ b, X2.heap.size = b := ⟨_, rfl⟩
            obtain ⟨Y22, hY⟩ : ∃ Y, X2.alloc (.cells #[.slice none 0 0, .slice none 0 0, .slice none 0 0, .slice none 0 0] 27) = Y := ⟨_, rfl⟩
            rw [hY] at K22 ⊢
            rw [hS] at K22 ⊢
            clear hY hS
            refine wpAnyH_ready (rs := [6]) (by kernel_rfl) (by simp) ?_
            refine AllReadyH.cons rfl (fun K hK => ?_) ?_
            case refine_1 =>
              obtain ⟨s0, s1, s2, s3⟩ := row4 (K22.out.at 0 rfl)
              have f0 := free_at (K22.out.at 0 rfl) 0
              have f1 := free_at (K22.out.at 0 rfl) 1
              have f2 := free_at (K22.out.at 0 rfl) 2
              have f3 := free_at (K22.out.at 0 rfl) 3
              have K23 := Lib.hid ((((K22.out.set 0 rfl 0 (.slice none 0 0) rfl).set 0 rfl 1 (.slice az1 n cz1) rfl).set 0 rfl 2 (.slice al1 m cl1) rfl).set 0 rfl 3 (.slice none 0 0) rfl)
              go_simp
              clear s0 s1 s2 s3 f0 f1 f2 f3
              refine hK.out _ _ ?_ (fun hHeld => ?_)
              · exact row4 (K23.out.at 2 rfl)
              clear hHeld hK K
              (try simp only [Act.put, List.setIfInBounds_toArray, List.set_cons_zero, List.set_cons_succ])
              obtain ⟨Y23, hY⟩ : ∃ Y, ((((Y22.setCell ⟨S, 0, none⟩ (.slice none 0 0)).setCell ⟨S, 1, none⟩ (.slice az1 n cz1)).setCell ⟨S, 2, none⟩ (.slice al1 m cl1)).setCell ⟨S, 3, none⟩ (.slice none 0 0)) = Y := ⟨_, rfl⟩
              rw [hY] at K23 ⊢
              clear hY
              refine wpAnyH_ready (rs := [7]) (by kernel_rfl) (by simp) ?_
              refine AllReadyH.cons rfl (fun K hK => ?_) ?_
              case refine_1 =>
                obtain ⟨s0, s1, s2, s3⟩ := row4 (K23.out.at 1 rfl)
                have f0 := free_at (K23.out.at 1 rfl) 0
                have f1 := free_at (K23.out.at 1 rfl) 1
                have f2 := free_at (K23.out.at 1 rfl) 2
                have f3 := free_at (K23.out.at 1 rfl) 3
                have K24 := Lib.hid ((((K23.out.set 1 rfl 0 (.slice none 0 0) rfl).set 1 rfl 1 (.slice az2 n cz2) rfl).set 1 rfl 2 (.slice al2 m cl2) rfl).set 1 rfl 3 (.slice none 0 0) rfl)
                go_simp
                clear s0 s1 s2 s3 f0 f1 f2 f3
                refine hK.out _ _ ?_ (fun hHeld => ?_)
                · exact row4 (K24.out.at 2 rfl)
                clear hHeld hK K
                (try simp only [Act.put, List.setIfInBounds_toArray, List.set_cons_zero, List.set_cons_succ])
                obtain ⟨Y24, hY⟩ : ∃ Y, ((((Y23.setCell ⟨T, 0, none⟩ (.slice none 0 0)).setCell ⟨T, 1, none⟩ (.slice az2 n cz2)).setCell ⟨T, 2, none⟩ (.slice al2 m cl2)).setCell ⟨T, 3, none⟩ (.slice none 0 0)) = Y := ⟨_, rfl⟩
                rw [hY] at K24 ⊢
                clear hY
                refine wpAnyH_done (by kernel_rfl) ?_ _
                refine NoPanic.normal ?_
                (try go_wp2_with fail)
                go_meet
                exact ⟨S, T, _, _, _, _, _, _, _, _, rfl, rfl, K24.out.permL (List.Perm.swap _ _ _)⟩
              exact AllReadyH.nil
            exact AllReadyH.nil
          exact AllReadyH.nil
        refine AllReadyH.cons rfl (fun K hK => ?_) ?_
        case refine_1 =>
          have K25 := Lib.hid (K20.out.alloc (.cells #[.slice none 0 0, .slice none 0 0, .slice none 0 0, .slice none 0 0] 27))
          go_simp
          refine hK.out _ _ ?_ (fun hHeld => ?_)
          · exact row4 (K25.out.at 2 rfl)
          clear hHeld hK K
          (try simp only [Act.put, List.setIfInBounds_toArray, List.set_cons_zero, List.set_cons_succ])
          obtain ⟨S, hS⟩ : ∃ b, Y20.heap.size = b := ⟨_, rfl⟩
          obtain ⟨Y25, hY⟩ : ∃ Y, Y20.alloc (.cells #[.slice none 0 0, .slice none 0 0, .slice none 0 0, .slice none 0 0] 27) = Y := ⟨_, rfl⟩
          rw [hY] at K25 ⊢
          rw [hS] at K25 ⊢
          clear hY hS
          refine wpAnyH_ready (rs := [3]) (by kernel_rfl) (by simp) ?_
          refine AllReadyH.cons rfl (fun K hK => ?_) ?_
          case refine_1 =>
            go_simp
            go_at_call 20
            refine (CM.out _ K25.out.below).mono ?_
            rintro e X2 ⟨zv, lv, rfl, hk⟩
            obtain ⟨az2, cz2, rfl⟩ : ∃ a c, zv = .slice a n c := own_slice (hk.row 1 rfl)
            obtain ⟨al2, cl2, rfl⟩ : ∃ a c, lv = .slice a m c := own_slice (hk.row 0 rfl)
            have K26 := Lib.hid (K25.out.adopt hk)
            clear hk
            (try go_wp2_with fail)
            refine hK.out _ _ ?_ (fun hHeld => ?_)
            · exact row4 (K26.out.at 2 rfl)
            clear hHeld hK K
            (try simp only [Act.put, List.setIfInBounds_toArray, List.set_cons_zero, List.set_cons_succ])
            refine wpAnyH_ready (rs := [6]) (by kernel_rfl) (by simp) ?_
            refine AllReadyH.cons rfl (fun K hK => ?_) ?_
            case refine_1 =>
              obtain ⟨s0, s1, s2, s3⟩ := row4 (K26.out.at 0 rfl)
              have f0 := free_at (K26.out.at 0 rfl) 0
              have f1 := free_at (K26.out.at 0 rfl) 1
              have f2 := free_at (K26.out.at 0 rfl) 2
              have f3 := free_at (K26.out.at 0 rfl) 3
              have K27 := Lib.hid ((((K26.out.set 0 rfl 0 (.slice none 0 0) rfl).set 0 rfl 1 (.slice az1 n cz1) rfl).set 0 rfl 2 (.slice al1 m cl1) rfl).set 0 rfl 3 (.slice none 0 0) rfl)
              go_simp
              clear s0 s1 s2 s3 f0 f1 f2 f3
              refine hK.out _ _ ?_ (fun hHeld => ?_)
              · exact row4 (K27.out.at 2 rfl)
              clear hHeld hK K
              (try simp only [Act.put, List.setIfInBounds_toArray, List.set_cons_zero, List.set_cons_succ])
              obtain ⟨Y27, hY⟩ : ∃ Y, ((((X2.setCell ⟨S, 0, none⟩ (.slice none 0 0)).setCell ⟨S, 1, none⟩ (.slice az1 n cz1)).setCell ⟨S, 2, none⟩ (.slice al1 m cl1)).setCell ⟨S, 3, none⟩ (.slice none 0 0)) = Y := ⟨_, rfl⟩
              rw [hY] at K27 ⊢
              clear hY
              refine wpAnyH_ready (rs := [7]) (by kernel_rfl) (by simp) ?_
              refine AllReadyH.cons rfl (fun K hK => ?_) ?_
              case refine_1 =>
                obtain ⟨s0, s1, s2, s3⟩ := row4 (K27.out.at 1 rfl)
                have f0 := free_at (K27.out.at 1 rfl) 0
                have f1 := free_at (K27.out.at 1 rfl) 1
                have f2 := free_at (K27.out.at 1 rfl) 2
                have f3 := free_at (K27.out.at 1 rfl) 3
                have K28 := Lib.hid ((((K27.out.set 1 rfl 0 (.slice none 0 0) rfl).set 1 rfl 1 (.slice az2 n cz2) rfl).set 1 rfl 2 (.slice al2 m cl2) rfl).set 1 rfl 3 (.slice none 0 0) rfl)
                go_simp
                clear s0 s1 s2 s3 f0 f1 f2 f3
                refine hK.out _ _ ?_ (fun hHeld => ?_)
                · exact row4 (K28.out.at 2 rfl)
                clear hHeld hK K
                (try simp only [Act.put, List.setIfInBounds_toArray, List.set_cons_zero, List.set_cons_succ])
                obtain ⟨Y28, hY⟩ : ∃ Y, ((((Y27.setCell ⟨T, 0, none⟩ (.slice none 0 0)).setCell ⟨T, 1, none⟩ (.slice az2 n cz2)).setCell ⟨T, 2, none⟩ (.slice al2 m cl2)).setCell ⟨T, 3, none⟩ (.slice none 0 0)) = Y := ⟨_, rfl⟩
                rw [hY] at K28 ⊢
                clear hY
                refine wpAnyH_done (by kernel_rfl) ?_ _
                refine NoPanic.normal ?_
                (try go_wp2_with fail)
                go_meet
                exact ⟨S, T, _, _, _, _, _, _, _, _, rfl, rfl, K28.out.permL (List.Perm.swap _ _ _)⟩
              exact AllReadyH.nil
            exact AllReadyH.nil
          exact AllReadyH.nil
        exact AllReadyH.nil
      exact AllReadyH.nil
    refine AllReadyH.cons rfl (fun K hK => ?_) ?_
    case refine_1 =>
      have K29 := Lib.hid (KD.out.alloc (.cells #[.slice none 0 0, .slice none 0 0, .slice none 0 0, .slice none 0 0] 27))
      go_simp
      refine hK.out _ _ ?_ (fun hHeld => ?_)
      · exact row4 (K29.out.at 1 rfl)
      clear hHeld hK K
      (try simp only [Act.put, List.setIfInBounds_toArray, List.set_cons_zero, List.set_cons_succ])
      obtain ⟨S, hS⟩ : ∃ b, Y0.heap.size = b := ⟨_, rfl⟩
      obtain ⟨Y29, hY⟩ : ∃ Y, Y0.alloc (.cells #[.slice none 0 0, .slice none 0 0, .slice none 0 0, .slice none 0 0] 27) = Y := ⟨_, rfl⟩
      rw [hY] at K29 ⊢
      rw [hS] at K29 ⊢
      clear hY hS
      refine wpAnyH_ready (rs := [1, 5]) (by kernel_rfl) (by simp) ?_
      refine AllReadyH.cons rfl (fun K hK => ?_) ?_
      case refine_1 =>
        go_simp
        go_at_call 20
        refine (CM.out _ K29.out.below).mono ?_
        rintro e X1 ⟨zv, lv, rfl, hk⟩
        obtain ⟨az1, cz1, rfl⟩ : ∃ a c, zv = .slice a n c := own_slice (hk.row 1 rfl)
        obtain ⟨al1, cl1, rfl⟩ : ∃ a c, lv = .slice a m c := own_slice (hk.row 0 rfl)
        have K30 := Lib.hid (K29.out.adopt hk)
        clear hk
        (try go_wp2_with fail)
        refine hK.out _ _ ?_ (fun hHeld => ?_)
        · exact row4 (K30.out.at 1 rfl)
        clear hHeld hK K
        (try simp only [Act.put, List.setIfInBounds_toArray, List.set_cons_zero, List.set_cons_succ])
        refine wpAnyH_ready (rs := [3, 5]) (by kernel_rfl) (by simp) ?_
        refine AllReadyH.cons rfl (fun K hK => ?_) ?_
        case refine_1 =>
          go_simp
          go_at_call 20
          refine (CM.out _ K30.out.below).mono ?_
          rintro e X2 ⟨zv, lv, rfl, hk⟩
          obtain ⟨az2, cz2, rfl⟩ : ∃ a c, zv = .slice a n c := own_slice (hk.row 1 rfl)
          obtain ⟨al2, cl2, rfl⟩ : ∃ a c, lv = .slice a m c := own_slice (hk.row 0 rfl)
          have K31 := Lib.hid (K30.out.adopt hk)
          clear hk
          (try go_wp2_with fail)
          refine hK.out _ _ ?_ (fun hHeld => ?_)
          · exact row4 (K31.out.at 1 rfl)
          clear hHeld hK K
          (try simp only [Act.put, List.setIfInBounds_toArray, List.set_cons_zero, List.set_cons_succ])
          refine wpAnyH_ready (rs := [5]) (by kernel_rfl) (by simp) ?_
          refine AllReadyH.cons rfl (fun K hK => ?_) ?_
          case refine_1 =>
            have K32 := Lib.hid (K31.out.alloc (.cells #[.slice none 0 0, .slice none 0 0, .slice none 0 0, .slice none 0 0] 27))
            go_simp
            refine hK.out _ _ ?_ (fun hHeld => ?_)
            · exact row4 (K32.out.at 2 rfl)
            clear hHeld hK K
            (try simp only [Act.put, List.setIfInBounds_toArray, List.set_cons_zero, List.set_cons_succ])
            obtain ⟨T, hT⟩ : ∃ b, X2.heap.size = b := ⟨_, rfl⟩
            obtain ⟨Y32, hY⟩ : ∃ Y, X2.alloc (.cells #[.slice none 0 0, .slice none 0 0, .slice none 0 0, .slice none 0 0] 27) = Y := ⟨_, rfl⟩
            rw [hY] at K32 ⊢
            rw [hT] at K32 ⊢
            clear hY hT
            refine wpAnyH_ready (rs := [6]) (by kernel_rfl) (by simp) ?_
            refine AllReadyH.cons rfl (fun K hK => ?_) ?_
            case refine_1 =>
              obtain ⟨s0, s1, s2, s3⟩ := row4 (K32.out.at 1 rfl)
              have f0 := free_at (K32.out.at 1 rfl) 0
              have f1 := free_at (K32.out.at 1 rfl) 1
              have f2 := free_at (K32.out.at 1 rfl) 2
              have f3 := free_at (K32.out.at 1 rfl) 3
              have K33 := Lib.hid ((((K32.out.set 1 rfl 0 (.slice none 0 0) rfl).set 1 rfl 1 (.slice az1 n cz1) rfl).set 1 rfl 2 (.slice al1 m cl1) rfl).set 1 rfl 3 (.slice none 0 0) rfl)
              go_simp
              clear s0 s1 s2 s3 f0 f1 f2 f3
              refine hK.out _ _ ?_ (fun hHeld => ?_)
              · exact row4 (K33.out.at 2 rfl)
              clear hHeld hK K
              (try simp only [Act.put, List.setIfInBounds_toArray, List.set_cons_zero, List.set_cons_succ])
              obtain ⟨Y33, hY⟩ : ∃ Y, ((((Y32.setCell ⟨S, 0, none⟩ (.slice none 0 0)).setCell ⟨S, 1, none⟩ (.slice az1 n cz1)).setCell ⟨S, 2, none⟩ (.slice al1 m cl1)).setCell ⟨S, 3, none⟩ (.slice none 0 0)) = Y := ⟨_, rfl⟩
              rw [hY] at K33 ⊢
              clear hY
              refine wpAnyH_ready (rs := [7]) (by kernel_rfl) (by simp) ?_
              refine AllReadyH.cons rfl (fun K hK => ?_) ?_
              case refine_1 =>
                obtain ⟨s0, s1, s2, s3⟩ := row4 (K33.out.at 0 rfl)
                have f0 := free_at (K33.out.at 0 rfl) 0
                have f1 := free_at (K33.out.at 0 rfl) 1
                have f2 := free_at (K33.out.at 0 rfl) 2
                have f3 := free_at (K33.out.at 0 rfl) 3
                have K34 := Lib.hid ((((K33.out.set 0 rfl 0 (.slice none 0 0) rfl).set 0 rfl 1 (.slice az2 n cz2) rfl).set 0 rfl 2 (.slice al2 m cl2) rfl).set 0 rfl 3 (.slice none 0 0) rfl)
                go_simp
                clear s0 s1 s2 s3 f0 f1 f2 f3
                refine hK.out _ _ ?_ (fun hHeld => ?_)
                · exact row4 (K34.out.at 2 rfl)
                clear hHeld hK K
                (try simp only [Act.put, List.setIfInBounds_toArray, List.set_cons_zero, List.set_cons_succ])
                obtain ⟨Y34, hY⟩ : ∃ Y, ((((Y33.setCell ⟨T, 0, none⟩ (.slice none 0 0)).setCell ⟨T, 1, none⟩ (.slice az2 n cz2)).setCell ⟨T, 2, none⟩ (.slice al2 m cl2)).setCell ⟨T, 3, none⟩ (.slice none 0 0)) = Y := ⟨_, rfl⟩
                rw [hY] at K34 ⊢
                clear hY
                refine wpAnyH_done (by kernel_rfl) ?_ _
                refine NoPanic.normal ?_
                (try go_wp2_with fail)
                go_meet
                exact ⟨S, T, _, _, _, _, _, _, _, _, rfl, rfl, K34.out.permL (List.Perm.refl _)⟩
              exact AllReadyH.nil
            exact AllReadyH.nil
          exact AllReadyH.nil
        refine AllReadyH.cons rfl (fun K hK => ?_) ?_
        case refine_1 =>
          have K35 := Lib.hid (K30.out.alloc (.cells #[.slice none 0 0, .slice none 0 0, .slice none 0 0, .slice none 0 0] 27))
          go_simp
          refine hK.out _ _ ?_ (fun hHeld => ?_)
          · exact row4 (K35.out.at 2 rfl)
          clear hHeld hK K
          (try simp only [Act.put, List.setIfInBounds_toArray, List.set_cons_zero, List.set_cons_succ])
          obtain ⟨T, hT⟩ : ∃ b, X1.heap.size = b := ⟨_, rfl⟩
          obtain ⟨Y35, hY⟩ : ∃ Y, X1.alloc (.cells #[.slice none 0 0, .slice none 0 0, .slice none 0 0, .slice none 0 0] 27) = Y := ⟨_, rfl⟩
          rw [hY] at K35 ⊢
          rw [hT] at K35 ⊢
          clear hY hT
          refine wpAnyH_ready (rs := [3]) (by kernel_rfl) (by simp) ?_
          refine AllReadyH.cons rfl (fun K hK => ?_) ?_
          case refine_1 =>
            go_simp
            go_at_call 20
            refine (CM.out _ K35.out.below).mono ?_
            rintro e X2 ⟨zv, lv, rfl, hk⟩
            obtain ⟨az2, cz2, rfl⟩ : ∃ a c, zv = .slice a n c := own_slice (hk.row 1 rfl)
            obtain ⟨al2, cl2, rfl⟩ : ∃ a c, lv = .slice a m c := own_slice (hk.row 0 rfl)
            have K36 := Lib.hid (K35.out.adopt hk)
            clear hk
            (try go_wp2_with fail)
            refine hK.out _ _ ?_ (fun hHeld => ?_)
            · exact row4 (K36.out.at 2 rfl)
            clear hHeld hK K
            (try simp only [Act.put, List.setIfInBounds_toArray, List.set_cons_zero, List.set_cons_succ])
            refine wpAnyH_ready (rs := [6]) (by kernel_rfl) (by simp) ?_
            refine AllReadyH.cons rfl (fun K hK => ?_) ?_
            case refine_1 =>
              obtain ⟨s0, s1, s2, s3⟩ := row4 (K36.out.at 1 rfl)
              have f0 := free_at (K36.out.at 1 rfl) 0
              have f1 := free_at (K36.out.at 1 rfl) 1
              have f2 := free_at (K36.out.at 1 rfl) 2
              have f3 := free_at (K36.out.at 1 rfl) 3
              have K37 := Lib.hid ((((K36.out.set 1 rfl 0 (.slice none 0 0) rfl).set 1 rfl 1 (.slice az1 n cz1) rfl).set 1 rfl 2 (.slice al1 m cl1) rfl).set 1 rfl 3 (.slice none 0 0) rfl)
              go_simp
              clear s0 s1 s2 s3 f0 f1 f2 f3
              refine hK.out _ _ ?_ (fun hHeld => ?_)
              · exact row4 (K37.out.at 2 rfl)
              clear hHeld hK K
              (try simp only [Act.put, List.setIfInBounds_toArray, List.set_cons_zero, List.set_cons_succ])
              obtain ⟨Y37, hY⟩ : ∃ Y, ((((X2.setCell ⟨S, 0, none⟩ (.slice none 0 0)).setCell ⟨S, 1, none⟩ (.slice az1 n cz1)).setCell ⟨S, 2, none⟩ (.slice al1 m cl1)).setCell ⟨S, 3, none⟩ (.slice none 0 0)) = Y := ⟨_, rfl⟩
              rw [hY] at K37 ⊢
              clear hY
              refine wpAnyH_ready (rs := [7]) (by kernel_rfl) (by simp) ?_
              refine AllReadyH.cons rfl (fun K hK => ?_) ?_
              case refine_1 =>
                obtain ⟨s0, s1, s2, s3⟩ := row4 (K37.out.at 0 rfl)
                have f0 := free_at (K37.out.at 0 rfl) 0
                have f1 := free_at (K37.out.at 0 rfl) 1
                have f2 := free_at (K37.out.at 0 rfl) 2
                have f3 := free_at (K37.out.at 0 rfl) 3
                have K38 := Lib.hid ((((K37.out.set 0 rfl 0 (.slice none 0 0) rfl).set 0 rfl 1 (.slice az2 n cz2) rfl).set 0 rfl 2 (.slice al2 m cl2) rfl).set 0 rfl 3 (.slice none 0 0) rfl)
                go_simp
                clear s0 s1 s2 s3 f0 f1 f2 f3
                refine hK.out _ _ ?_ (fun hHeld => ?_)
                · exact row4 (K38.out.at 2 rfl)
                clear hHeld hK K
                (try simp only [Act.put, List.setIfInBounds_toArray, List.set_cons_zero, List.set_cons_succ])
                obtain ⟨Y38, hY⟩ : ∃ Y, ((((Y37.setCell ⟨T, 0, none⟩ (.slice none 0 0)).setCell ⟨T, 1, none⟩ (.slice az2 n cz2)).setCell ⟨T, 2, none⟩ (.slice al2 m cl2)).setCell ⟨T, 3, none⟩ (.slice none 0 0)) = Y := ⟨_, rfl⟩
                rw [hY] at K38 ⊢
                clear hY
                refine wpAnyH_done (by kernel_rfl) ?_ _
                refine NoPanic.normal ?_
                (try go_wp2_with fail)
                go_meet
                exact ⟨S, T, _, _, _, _, _, _, _, _, rfl, rfl, K38.out.permL (List.Perm.refl _)⟩
              exact AllReadyH.nil
            exact AllReadyH.nil
          exact AllReadyH.nil
        exact AllReadyH.nil
      refine AllReadyH.cons rfl (fun K hK => ?_) ?_
      case refine_1 =>
        have K39 := Lib.hid (K29.out.alloc (.cells #[.slice none 0 0, .slice none 0 0, .slice none 0 0, .slice none 0 0] 27))
        go_simp
        refine hK.out _ _ ?_ (fun hHeld => ?_)
        · exact row4 (K39.out.at 2 rfl)
        clear hHeld hK K
        (try simp only [Act.put, List.setIfInBounds_toArray, List.set_cons_zero, List.set_cons_succ])
        obtain ⟨T, hT⟩ : ∃ b, Y29.heap.size = b := ⟨_, rfl⟩
        obtain ⟨Y39, hY⟩ : ∃ Y, Y29.alloc (.cells #[.slice none 0 0, .slice none 0 0, .slice none 0 0, .slice none 0 0] 27) = Y := ⟨_, rfl⟩
        rw [hY] at K39 ⊢
        rw [hT] at K39 ⊢
        clear hY hT
        refine wpAnyH_ready (rs := [1]) (by kernel_rfl) (by simp) ?_
        refine AllReadyH.cons rfl (fun K hK => ?_) ?_
        case refine_1 =>
          go_simp
          go_at_call 20
          refine (CM.out _ K39.out.below).mono ?_
          rintro e X1 ⟨zv, lv, rfl, hk⟩
          obtain ⟨az1, cz1, rfl⟩ : ∃ a c, zv = .slice a n c := own_slice (hk.row 1 rfl)
          obtain ⟨al1, cl1, rfl⟩ : ∃ a c, lv = .slice a m c := own_slice (hk.row 0 rfl)
          have K40 := Lib.hid (K39.out.adopt hk)
          clear hk
          (try go_wp2_with fail)
          refine hK.out _ _ ?_ (fun hHeld => ?_)
          · exact row4 (K40.out.at 2 rfl)
          clear hHeld hK K
          (try simp only [Act.put, List.setIfInBounds_toArray, List.set_cons_zero, List.set_cons_succ])
          refine wpAnyH_ready (rs := [3]) (by kernel_rfl) (by simp) ?_
          refine AllReadyH.cons rfl (fun K hK => ?_) ?_
          case refine_1 =>
            go_simp
            go_at_call 20
            refine (CM.out _ K40.out.below).mono ?_
            rintro e X2 ⟨zv, lv, rfl, hk⟩
            obtain ⟨az2, cz2, rfl⟩ : ∃ a c, zv = .slice a n c := own_slice (hk.row 1 rfl)
            obtain ⟨al2, cl2, rfl⟩ : ∃ a c, lv = .slice a m c := own_slice (hk.row 0 rfl)
            have K41 := Lib.hid (K40.out.adopt hk)
            clear hk
            (try go_wp2_with fail)
            refine hK.out _ _ ?_ (fun hHeld => ?_)
            · exact row4 (K41.out.at 2 rfl)
            clear hHeld hK K
            (try simp only [Act.put, List.setIfInBounds_toArray, List.set_cons_zero, List.set_cons_succ])
            refine wpAnyH_ready (rs := [6]) (by kernel_rfl) (by simp) ?_
            refine AllReadyH.cons rfl (fun K hK => ?_) ?_
            case refine_1 =>
              obtain ⟨s0, s1, s2, s3⟩ := row4 (K41.out.at 1 rfl)
              have f0 := free_at (K41.out.at 1 rfl) 0
              have f1 := free_at (K41.out.at 1 rfl) 1
              have f2 := free_at (K41.out.at 1 rfl) 2
              have f3 := free_at (K41.out.at 1 rfl) 3
              have K42 := Lib.hid ((((K41.out.set 1 rfl 0 (.slice none 0 0) rfl).set 1 rfl 1 (.slice az1 n cz1) rfl).set 1 rfl 2 (.slice al1 m cl1) rfl).set 1 rfl 3 (.slice none 0 0) rfl)
              go_simp
              clear s0 s1 s2 s3 f0 f1 f2 f3
              refine hK.out _ _ ?_ (fun hHeld => ?_)
              · exact row4 (K42.out.at 2 rfl)
              clear hHeld hK K
              (try simp only [Act.put, List.setIfInBounds_toArray, List.set_cons_zero, List.set_cons_succ])
              obtain ⟨Y42, hY⟩ : ∃ Y, ((((X2.setCell ⟨S, 0, none⟩ (.slice none 0 0)).setCell ⟨S, 1, none⟩ (.slice az1 n cz1)).setCell ⟨S, 2, none⟩ (.slice al1 m cl1)).setCell ⟨S, 3, none⟩ (.slice none 0 0)) = Y := ⟨_, rfl⟩
              rw [hY] at K42 ⊢
              clear hY
              refine wpAnyH_ready (rs := [7]) (by kernel_rfl) (by simp) ?_
              refine AllReadyH.cons rfl (fun K hK => ?_) ?_
              case refine_1 =>
                obtain ⟨s0, s1, s2, s3⟩ := row4 (K42.out.at 0 rfl)
                have f0 := free_at (K42.out.at 0 rfl) 0
                have f1 := free_at (K42.out.at 0 rfl) 1
                have f2 := free_at (K42.out.at 0 rfl) 2
                have f3 := free_at (K42.out.at 0 rfl) 3
                have K43 := Lib.hid ((((K42.out.set 0 rfl 0 (.slice none 0 0) rfl).set 0 rfl 1 (.slice az2 n cz2) rfl).set 0 rfl 2 (.slice al2 m cl2) rfl).set 0 rfl 3 (.slice none 0 0) rfl)
                go_simp
                clear s0 s1 s2 s3 f0 f1 f2 f3
                refine hK.out _ _ ?_ (fun hHeld => ?_)
                · exact row4 (K43.out.at 2 rfl)
                clear hHeld hK K
                (try simp only [Act.put, List.setIfInBounds_toArray, List.set_cons_zero, List.set_cons_succ])
                obtain ⟨Y43, hY⟩ : ∃ Y, ((((Y42.setCell ⟨T, 0, none⟩ (.slice none 0 0)).setCell ⟨T, 1, none⟩ (.slice az2 n cz2)).setCell ⟨T, 2, none⟩ (.slice al2 m cl2)).setCell ⟨T, 3, none⟩ (.slice none 0 0)) = Y := ⟨_, rfl⟩
                rw [hY] at K43 ⊢
                clear hY
                refine wpAnyH_done (by kernel_rfl) ?_ _
                refine NoPanic.normal ?_
                (try go_wp2_with fail)
                go_meet
                exact ⟨S, T, _, _, _, _, _, _, _, _, rfl, rfl, K43.out.permL (List.Perm.refl _)⟩
              exact AllReadyH.nil
            exact AllReadyH.nil
          exact AllReadyH.nil
        exact AllReadyH.nil
      exact AllReadyH.nil
    refine AllReadyH.cons rfl (fun K hK => ?_) ?_
    case refine_1 =>
      have K44 := Lib.hid (KD.out.alloc (.cells #[.slice none 0 0, .slice none 0 0, .slice none 0 0, .slice none 0 0] 27))
      go_simp
      refine hK.out _ _ ?_ (fun hHeld => ?_)
      · exact row4 (K44.out.at 1 rfl)
      clear hHeld hK K
      (try simp only [Act.put, List.setIfInBounds_toArray, List.set_cons_zero, List.set_cons_succ])
      obtain ⟨T, hT⟩ : ∃ b, Y0.heap.size = b := ⟨_, rfl⟩
      obtain ⟨Y44, hY⟩ : ∃ Y, Y0.alloc (.cells #[.slice none 0 0, .slice none 0 0, .slice none 0 0, .slice none 0 0] 27) = Y := ⟨_, rfl⟩
      rw [hY] at K44 ⊢
      rw [hT] at K44 ⊢
      clear hY hT
      refine wpAnyH_ready (rs := [1, 4]) (by kernel_rfl) (by simp) ?_
      refine AllReadyH.cons rfl (fun K hK => ?_) ?_
      case refine_1 =>
        go_simp
        go_at_call 20
        refine (CM.out _ K44.out.below).mono ?_
        rintro e X1 ⟨zv, lv, rfl, hk⟩
        obtain ⟨az1, cz1, rfl⟩ : ∃ a c, zv = .slice a n c := own_slice (hk.row 1 rfl)
        obtain ⟨al1, cl1, rfl⟩ : ∃ a c, lv = .slice a m c := own_slice (hk.row 0 rfl)
        have K45 := Lib.hid (K44.out.adopt hk)
        clear hk
        (try go_wp2_with fail)
        refine hK.out _ _ ?_ (fun hHeld => ?_)
        · exact row4 (K45.out.at 1 rfl)
        clear hHeld hK K
        (try simp only [Act.put, List.setIfInBounds_toArray, List.set_cons_zero, List.set_cons_succ])
        refine wpAnyH_ready (rs := [3, 4]) (by kernel_rfl) (by simp) ?_
        refine AllReadyH.cons rfl (fun K hK => ?_) ?_
        case refine_1 =>
          go_simp
          go_at_call 20
          refine (CM.out _ K45.out.below).mono ?_
          rintro e X2 ⟨zv, lv, rfl, hk⟩
          obtain ⟨az2, cz2, rfl⟩ : ∃ a c, zv = .slice a n c := own_slice (hk.row 1 rfl)
          obtain ⟨al2, cl2, rfl⟩ : ∃ a c, lv = .slice a m c := own_slice (hk.row 0 rfl)
          have K46 := Lib.hid (K45.out.adopt hk)
          clear hk
          (try go_wp2_with fail)
          refine hK.out _ _ ?_ (fun hHeld => ?_)
          · exact row4 (K46.out.at 1 rfl)
          clear hHeld hK K
          (try simp only [Act.put, List.setIfInBounds_toArray, List.set_cons_zero, List.set_cons_succ])
          refine wpAnyH_ready (rs := [4]) (by kernel_rfl) (by simp) ?_
          refine AllReadyH.cons rfl (fun K hK => ?_) ?_
          case refine_1 =>
            have K47 := Lib.hid (K46.out.alloc (.cells #[.slice none 0 0, .slice none 0 0, .slice none 0 0, .slice none 0 0] 27))
            go_simp
            refine hK.out _ _ ?_ (fun hHeld => ?_)
            · exact row4 (K47.out.at 2 rfl)
            clear hHeld hK K
            (try simp only [Act.put, List.setIfInBounds_toArray, List.set_cons_zero, List.set_cons_succ])
            obtain ⟨S, hS⟩ : ∃ b, X2.heap.size = b := ⟨_, rfl⟩
            obtain ⟨Y47, hY⟩ : ∃ Y, X2.alloc (.cells #[.slice none 0 0, .slice none 0 0, .slice none 0 0, .slice none 0 0] 27) = Y := ⟨_, rfl⟩
            rw [hY] at K47 ⊢
            rw [hS] at K47 ⊢
            clear hY hS
            refine wpAnyH_ready (rs := [6]) (by kernel_rfl) (by simp) ?_
            refine AllReadyH.cons rfl (fun K hK => ?_) ?_
            case refine_1 =>
              obtain ⟨s0, s1, s2, s3⟩ := row4 (K47.out.at 0 rfl)
              have f0 := free_at (K47.out.at 0 rfl) 0
              have f1 := free_at (K47.out.at 0 rfl) 1
              have f2 := free_at (K47.out.at 0 rfl) 2
              have f3 := free_at (K47.out.at 0 rfl) 3
              have K48 := Lib.hid ((((K47.out.set 0 rfl 0 (.slice none 0 0) rfl).set 0 rfl 1 (.slice az1 n cz1) rfl).set 0 rfl 2 (.slice al1 m cl1) rfl).set 0 rfl 3 (.slice none 0 0) rfl)
              go_simp
              clear s0 s1 s2 s3 f0 f1 f2 f3
              refine hK.out _ _ ?_ (fun hHeld => ?_)
              · exact row4 (K48.out.at 2 rfl)
              clear hHeld hK K
              (try simp only [Act.put, List.setIfInBounds_toArray, List.set_cons_zero, List.set_cons_succ])
              obtain ⟨Y48, hY⟩ : ∃ Y, ((((Y47.setCell ⟨S, 0, none⟩ (.slice none 0 0)).setCell ⟨S, 1, none⟩ (.slice az1 n cz1)).setCell ⟨S, 2, none⟩ (.slice al1 m cl1)).setCell ⟨S, 3, none⟩ (.slice none 0 0)) = Y := ⟨_, rfl⟩
              rw [hY] at K48 ⊢
              clear hY
              refine wpAnyH_ready (rs := [7]) (by kernel_rfl) (by simp) ?_
              refine AllReadyH.cons rfl (fun K hK => ?_) ?_
              case refine_1 =>
                obtain ⟨s0, s1, s2, s3⟩ := row4 (K48.out.at 1 rfl)
                have f0 := free_at (K48.out.at 1 rfl) 0
                have f1 := free_at (K48.out.at 1 rfl) 1
                have f2 := free_at (K48.out.at 1 rfl) 2
                have f3 := free_at (K48.out.at 1 rfl) 3
                have K49 := Lib.hid ((((K48.out.set 1 rfl 0 (.slice none 0 0) rfl).set 1 rfl 1 (.slice az2 n cz2) rfl).set 1 rfl 2 (.slice al2 m cl2) rfl).set 1 rfl 3 (.slice none 0 0) rfl)
                go_simp
                clear s0 s1 s2 s3 f0 f1 f2 f3
                refine hK.out _ _ ?_ (fun hHeld => ?_)
                · exact row4 (K49.out.at 2 rfl)
                clear hHeld hK K
                (try simp only [Act.put, List.setIfInBounds_toArray, List.set_cons_zero, List.set_cons_succ])
                obtain ⟨Y49, hY⟩ : ∃ Y, ((((Y48.setCell ⟨T, 0, none⟩ (.slice none 0 0)).setCell ⟨T, 1, none⟩ (.slice az2 n cz2)).setCell ⟨T, 2, none⟩ (.slice al2 m cl2)).setCell ⟨T, 3, none⟩ (.slice none 0 0)) = Y := ⟨_, rfl⟩
                rw [hY] at K49 ⊢
                clear hY
                refine wpAnyH_done (by kernel_rfl) ?_ _
                refine NoPanic.normal ?_
                (try go_wp2_with fail)
                go_meet
                exact ⟨S, T, _, _, _, _, _, _, _, _, rfl, rfl, K49.out.permL (List.Perm.swap _ _ _)⟩
              exact AllReadyH.nil
            exact AllReadyH.nil
          exact AllReadyH.nil
        refine AllReadyH.cons rfl (fun K hK => ?_) ?_
        case refine_1 =>
          have K50 := Lib.hid (K45.out.alloc (.cells #[.slice none 0 0, .slice none 0 0, .slice none 0 0, .slice none 0 0] 27))
          go_simp
          refine hK.out _ _ ?_ (fun hHeld => ?_)
          · exact row4 (K50.out.at 2 rfl)
          clear hHeld hK K
          (try simp only [Act.put, List.setIfInBounds_toArray, List.set_cons_zero, List.set_cons_succ])
          obtain ⟨S, hS⟩ : ∃ b, X1.heap.size = b := ⟨_, rfl⟩
          obtain ⟨Y50, hY⟩ : ∃ Y, X1.alloc (.cells #[.slice none 0 0, .slice none 0 0, .slice none 0 0, .slice none 0 0] 27) = Y := ⟨_, rfl⟩
          rw [hY] at K50 ⊢
          rw [hS] at K50 ⊢
          clear hY hS
          refine wpAnyH_ready (rs := [3]) (by kernel_rfl) (by simp) ?_
          refine AllReadyH.cons rfl (fun K hK => ?_) ?_
          case refine_1 =>
            go_simp
            go_at_call 20
            refine (CM.out _ K50.out.below).mono ?_
            rintro e X2 ⟨zv, lv, rfl, hk⟩
            obtain ⟨az2, cz2, rfl⟩ : ∃ a c, zv = .slice a n c := own_slice (hk.row 1 rfl)
            obtain ⟨al2, cl2, rfl⟩ : ∃ a c, lv = .slice a m c := own_slice (hk.row 0 rfl)
            have K51 := Lib.hid (K50.out.adopt hk)
            clear hk
            (try go_wp2_with fail)
            refine hK.out _ _ ?_ (fun hHeld => ?_)
            · exact row4 (K51.out.at 2 rfl)
            clear hHeld hK K
            (try simp only [Act.put, List.setIfInBounds_toArray, List.set_cons_zero, List.set_cons_succ])
            refine wpAnyH_ready (rs := [6]) (by kernel_rfl) (by simp) ?_
            refine AllReadyH.cons rfl (fun K hK => ?_) ?_
            case refine_1 =>
              obtain ⟨s0, s1, s2, s3⟩ := row4 (K51.out.at 0 rfl)
              have f0 := free_at (K51.out.at 0 rfl) 0
              have f1 := free_at (K51.out.at 0 rfl) 1
              have f2 := free_at (K51.out.at 0 rfl) 2
              have f3 := free_at (K51.out.at 0 rfl) 3
              have K52 := Lib.hid ((((K51.out.set 0 rfl 0 (.slice none 0 0) rfl).set 0 rfl 1 (.slice az1 n cz1) rfl).set 0 rfl 2 (.slice al1 m cl1) rfl).set 0 rfl 3 (.slice none 0 0) rfl)
              go_simp
              clear s0 s1 s2 s3 f0 f1 f2 f3
              refine hK.out _ _ ?_ (fun hHeld => ?_)
              · exact row4 (K52.out.at 2 rfl)
              clear hHeld hK K
              (try simp only [Act.put, List.setIfInBounds_toArray, List.set_cons_zero, List.set_cons_succ])
              obtain ⟨Y52, hY⟩ : ∃ Y, ((((X2.setCell ⟨S, 0, none⟩ (.slice none 0 0)).setCell ⟨S, 1, none⟩ (.slice az1 n cz1)).setCell ⟨S, 2, none⟩ (.slice al1 m cl1)).setCell ⟨S, 3, none⟩ (.slice none 0 0)) = Y := ⟨_, rfl⟩
              rw [hY] at K52 ⊢
              clear hY
              refine wpAnyH_ready (rs := [7]) (by kernel_rfl) (by simp) ?_
              refine AllReadyH.cons rfl (fun K hK => ?_) ?_
              case refine_1 =>
                obtain ⟨s0, s1, s2, s3⟩ := row4 (K52.out.at 1 rfl)
                have f0 := free_at (K52.out.at 1 rfl) 0
                have f1 := free_at (K52.out.at 1 rfl) 1
                have f2 := free_at (K52.out.at 1 rfl) 2
                have f3 := free_at (K52.out.at 1 rfl) 3
                have K53 := Lib.hid ((((K52.out.set 1 rfl 0 (.slice none 0 0) rfl).set 1 rfl 1 (.slice az2 n cz2) rfl).set 1 rfl 2 (.slice al2 m cl2) rfl).set 1 rfl 3 (.slice none 0 0) rfl)
                go_simp
                clear s0 s1 s2 s3 f0 f1 f2 f3
                refine hK.out _ _ ?_ (fun hHeld => ?_)
                · exact row4 (K53.out.at 2 rfl)
                clear hHeld hK K
                (try simp only [Act.put, List.setIfInBounds_toArray, List.set_cons_zero, List.set_cons_succ])
                obtain ⟨Y53, hY⟩ : ∃ Y, ((((Y52.setCell ⟨T, 0, none⟩ (.slice none 0 0)).setCell ⟨T, 1, none⟩ (.slice az2 n cz2)).setCell ⟨T, 2, none⟩ (.slice al2 m cl2)).setCell ⟨T, 3, none⟩ (.slice none 0 0)) = Y := ⟨_, rfl⟩
                rw [hY] at K53 ⊢
                clear hY
                refine wpAnyH_done (by kernel_rfl) ?_ _
                refine NoPanic.normal ?_
                (try go_wp2_with fail)
                go_meet
                exact ⟨S, T, _, _, _, _, _, _, _, _, rfl, rfl, K53.out.permL (List.Perm.swap _ _ _)⟩
              exact AllReadyH.nil
            exact AllReadyH.nil
          exact AllReadyH.nil
        exact AllReadyH.nil
      refine AllReadyH.cons rfl (fun K hK => ?_) ?_
      case refine_1 =>
        have K54 := Lib.hid (K44.out.alloc (.cells #[.slice none 0 0, .slice none 0 0, .slice none 0 0, .slice none 0 0] 27))
        go_simp
        refine hK.out _ _ ?_ (fun hHeld => ?_)
        · exact row4 (K54.out.at 2 rfl)
        clear hHeld hK K
        (try simp only [Act.put, List.setIfInBounds_toArray, List.set_cons_zero, List.set_cons_succ])
        obtain ⟨S, hS⟩ : ∃ b, Y44.heap.size = b := ⟨_, rfl⟩
        obtain ⟨Y54, hY⟩ : ∃ Y, Y44.alloc (.cells #[.slice none 0 0, .slice none 0 0, .slice none 0 0, .slice none 0 0] 27) = Y := ⟨_, rfl⟩
        rw [hY] at K54 ⊢
        rw [hS] at K54 ⊢
        clear hY hS
        refine wpAnyH_ready (rs := [1]) (by kernel_rfl) (by simp) ?_
        refine AllReadyH.cons rfl (fun K hK => ?_) ?_
        case refine_1 =>
          go_simp
          go_at_call 20
          refine (CM.out _ K54.out.below).mono ?_
          rintro e X1 ⟨zv, lv, rfl, hk⟩
          obtain ⟨az1, cz1, rfl⟩ : ∃ a c, zv = .slice a n c := own_slice (hk.row 1 rfl)
          obtain ⟨al1, cl1, rfl⟩ : ∃ a c, lv = .slice a m c := own_slice (hk.row 0 rfl)
          have K55 := Lib.hid (K54.out.adopt hk)
          clear hk
          (try go_wp2_with fail)
          refine hK.out _ _ ?_ (fun hHeld => ?_)
          · exact row4 (K55.out.at 2 rfl)
          clear hHeld hK K
          (try simp only [Act.put, List.setIfInBounds_toArray, List.set_cons_zero, List.set_cons_succ])
          refine wpAnyH_ready (rs := [3]) (by kernel_rfl) (by simp) ?_
          refine AllReadyH.cons rfl (fun K hK => ?_) ?_
          case refine_1 =>
            go_simp
            go_at_call 20
            refine (CM.out _ K55.out.below).mono ?_
            rintro e X2 ⟨zv, lv, rfl, hk⟩
            obtain ⟨az2, cz2, rfl⟩ : ∃ a c, zv = .slice a n c := own_slice (hk.row 1 rfl)
            obtain ⟨al2, cl2, rfl⟩ : ∃ a c, lv = .slice a m c := own_slice (hk.row 0 rfl)
            have K56 := Lib.hid (K55.out.adopt hk)
            clear hk
            (try go_wp2_with fail)
            refine hK.out _ _ ?_ (fun hHeld => ?_)
            · exact row4 (K56.out.at 2 rfl)
            clear hHeld hK K
            (try simp only [Act.put, List.setIfInBounds_toArray, List.set_cons_zero, List.set_cons_succ])
            refine wpAnyH_ready (rs := [6]) (by kernel_rfl) (by simp) ?_
            refine AllReadyH.cons rfl (fun K hK => ?_) ?_
            case refine_1 =>
              obtain ⟨s0, s1, s2, s3⟩ := row4 (K56.out.at 0 rfl)
              have f0 := free_at (K56.out.at 0 rfl) 0
              have f1 := free_at (K56.out.at 0 rfl) 1
              have f2 := free_at (K56.out.at 0 rfl) 2
              have f3 := free_at (K56.out.at 0 rfl) 3
              have K57 := Lib.hid ((((K56.out.set 0 rfl 0 (.slice none 0 0) rfl).set 0 rfl 1 (.slice az1 n cz1) rfl).set 0 rfl 2 (.slice al1 m cl1) rfl).set 0 rfl 3 (.slice none 0 0) rfl)
              go_simp
              clear s0 s1 s2 s3 f0 f1 f2 f3
              refine hK.out _ _ ?_ (fun hHeld => ?_)
              · exact row4 (K57.out.at 2 rfl)
              clear hHeld hK K
              (try simp only [Act.put, List.setIfInBounds_toArray, List.set_cons_zero, List.set_cons_succ])
              obtain ⟨Y57, hY⟩ : ∃ Y, ((((X2.setCell ⟨S, 0, none⟩ (.slice none 0 0)).setCell ⟨S, 1, none⟩ (.slice az1 n cz1)).setCell ⟨S, 2, none⟩ (.slice al1 m cl1)).setCell ⟨S, 3, none⟩ (.slice none 0 0)) = Y := ⟨_, rfl⟩
              rw [hY] at K57 ⊢
              clear hY
              refine wpAnyH_ready (rs := [7]) (by kernel_rfl) (by simp) ?_
              refine AllReadyH.cons rfl (fun K hK => ?_) ?_
              case refine_1 =>
                obtain ⟨s0, s1, s2, s3⟩ := row4 (K57.out.at 1 rfl)
                have f0 := free_at (K57.out.at 1 rfl) 0
                have f1 := free_at (K57.out.at 1 rfl) 1
                have f2 := free_at (K57.out.at 1 rfl) 2
                have f3 := free_at (K57.out.at 1 rfl) 3
                have K58 := Lib.hid ((((K57.out.set 1 rfl 0 (.slice none 0 0) rfl).set 1 rfl 1 (.slice az2 n cz2) rfl).set 1 rfl 2 (.slice al2 m cl2) rfl).set 1 rfl 3 (.slice none 0 0) rfl)
                go_simp
                clear s0 s1 s2 s3 f0 f1 f2 f3
                refine hK.out _ _ ?_ (fun hHeld => ?_)
                · exact row4 (K58.out.at 2 rfl)
                clear hHeld hK K
                (try simp only [Act.put, List.setIfInBounds_toArray, List.set_cons_zero, List.set_cons_succ])
                obtain ⟨Y58, hY⟩ : ∃ Y, ((((Y57.setCell ⟨T, 0, none⟩ (.slice none 0 0)).setCell ⟨T, 1, none⟩ (.slice az2 n cz2)).setCell ⟨T, 2, none⟩ (.slice al2 m cl2)).setCell ⟨T, 3, none⟩ (.slice none 0 0)) = Y := ⟨_, rfl⟩
                rw [hY] at K58 ⊢
                clear hY
                refine wpAnyH_done (by kernel_rfl) ?_ _
                refine NoPanic.normal ?_
                (try go_wp2_with fail)
                go_meet
                exact ⟨S, T, _, _, _, _, _, _, _, _, rfl, rfl, K58.out.permL (List.Perm.swap _ _ _)⟩
              exact AllReadyH.nil
            exact AllReadyH.nil
          exact AllReadyH.nil
        exact AllReadyH.nil
      exact AllReadyH.nil
    exact AllReadyH.nil
  case rest =>
    obtain ⟨S, T, az, al, az2, al2, cz, cl, cz2, cl2, rfl, rfl, hk⟩ := hcut
    have HK := Lib.hid hk
    clear hk KD K0 v0 v1 v2 v3
    obtain ⟨y0, y1, y2, y3⟩ := row4 (HK.out.at 0 rfl)
    obtain ⟨g4, rfl, -, hc4, hc4b, hg4⟩ := own_some (HK.out.row 1 rfl) (show 0 < n by omega)
    have hc4 : n ≤ cz2 := hc4
    have hkmN : kz ≤ n := by omega
    have hck : ¬ cz2 = kz := by omega
    have hkcN : kz ≤ cz2 := by omega
    have hk0 : (0 : Int) ≤ (kz : Int) := by omega
    have hkm2 : (kz : Int) ≤ (n : Int) := by omega
    have hkc : (kz : Int) ≤ (cz2 : Int) := by omega
    have KD := Lib.hid HK.out.drew
    have HZo := Lib.hid (show (zos Zn).length = n by unfold zos; rw [List.length_map]; exact HZl.out)
    have HV1 := Lib.hid (fun (Y : World) (hs : Y.ownsRow W.heap.size 33 2 (.slice (some ⟨g4, 0, none⟩) n cz2) n ((zos Zn).flatMap zcells)) => rows_part zcells (fun _ => rfl) (SlV.of_own hs) HZo.out hkmN (Nat.le_refl n) (show 0 < n by omega))
    have HV2 := Lib.hid (fun (Y : World) (hs : Y.ownsRow W.heap.size 33 2 (.slice (some ⟨g4, 0, none⟩) n cz2) n ((zos Zn).flatMap zcells)) => rows_part zcells (fun _ => rfl) (SlV.of_own hs) HZo.out (Nat.zero_le kz) hkmN (show 0 < n by omega))
    have HD := Lib.hid (show ((zos Zn).drop kz).length = n - kz by rw [List.length_drop, HZo.out])
    have HRk := Lib.hid (show ((zos Zn).drop kz).length + ((zos Zn).take kz).length = n by rw [List.length_drop, List.length_take, HZo.out]; omega)
    have HRo := Lib.hid (show ((zos Zn).drop kz).flatMap zcells ++ ((zos Zn).take kz).flatMap zcells = (zos Z2).flatMap zcells by
      rw [← HZ2.out, ← List.flatMap_append]
      unfold rot zos
      rw [List.map_append, List.map_drop, List.map_take])
    go_upto_region 3 with fail
    go_cut [28] from 28 to 39 (fun _ wx => ∃ (az3 : Option Addr) (cz3 : Nat), Kp [(T, .cells #[.slice none 0 0, .slice az3 n cz3, .slice al2 m cl2, .slice none 0 0] 27 (0, 0)), (S, .cells #[.slice none 0 0, .slice az n cz, .slice al m cl, .slice none 0 0] 27 (0, 0)), (W.heap.size, .cells #[.int .u8 (z : Int), .int .u8 (l : Int), .slice ta q tc, .int .u8 (t : Int)] 50 (0, 0))] [⟨.slice az3 n cz3, 33, 2, n, (zos Z2).flatMap zcells⟩, ⟨.slice al2 m cl2, 36, 2, m, Ls.flatMap kcells⟩, ⟨.slice al m cl, 36, 2, m, Ls.flatMap kcells⟩, ⟨.slice az n cz, 33, 2, n, (zos Zn).flatMap zcells⟩] W wx)
    case first =>
      go_region_law
        (first
        | (go_simp; go_at_call 10; refine (clone_zones ((zos Zn).drop kz) _ _ (by have h := HV1.out _ (KD.out.row 1 rfl); rw [List.take_of_length_le (by rw [HD.out]; exact Nat.le_refl _)] at h; simpa [HD.out] using h) (by intro c h; simp at h) (by rw [HD.out]; omega)).mono ?_; rintro e X ⟨v', rfl, hkx⟩; have KX := Lib.hid (KD.out.adopt hkx); obtain ⟨z0, z1, z2, z3⟩ := row4 (KX.out.at 0 rfl); clear hkx)
        | (obtain ⟨va, wa, hra, hka⟩ := append_zones KX.out ((zos Zn).take kz) (.slice (some ⟨g4, 0, none⟩) kz cz2) (by have h := HV2.out X (KX.out.row 2 rfl); simpa using h) (by intro c h; simp at h) (by rw [HRk.out]; omega); rw [HRk.out, HRo.out] at hka; obtain ⟨a6, c6, rfl⟩ : ∃ a c, va = .slice a n c := own_slice (hka.row 0 rfl); refine step_append_eq (by rfl) (.tmp 32) (.tmp 36) 23 (by rfl) _ _ _ wa (by rfl) (by rfl) hra ?_; have KA := Lib.hid hka; obtain ⟨b0, b1, b2, b3⟩ := row4 (KA.out.at 0 rfl); have b4 := free_at (KA.out.at 0 rfl) 1; clear hra hka))
      all_goals
        (try go_wp2_with fail)
        go_meet
        exact ⟨a6, c6, (KA.out.set 0 rfl 1 (.slice a6 n c6) rfl).less (List.Sublist.cons_cons _ (List.Sublist.cons_cons _ (List.Sublist.cons _ (List.Sublist.refl _))))⟩
    case rest =>
      obtain ⟨az3, cz3, hk⟩ := hcut
      have HK3 := Lib.hid hk
      clear hk HK KD y0 y1 y2 y3 HV1 HV2 HD HRk HRo hc4 hg4
      obtain ⟨y0, y1, y2, y3⟩ := row4 (HK3.out.at 0 rfl)
      go_upto_if 43 with fail
      go_cut [11] from 43 to 59 (fun _ wx => ∃ (al3 : Option Addr) (cl3 : Nat), Kp [(T, .cells #[.slice none 0 0, .slice az3 n cz3, .slice al3 m cl3, .slice none 0 0] 27 (0, 0)), (S, .cells #[.slice none 0 0, .slice az n cz, .slice al m cl, .slice none 0 0] 27 (0, 0)), (W.heap.size, .cells #[.int .u8 (z : Int), .int .u8 (l : Int), .slice ta q tc, .int .u8 (t : Int)] 50 (0, 0))] [⟨.slice al3 m cl3, 36, 2, m, L2.flatMap kcells⟩, ⟨.slice az3 n cz3, 33, 2, n, (zos Z2).flatMap zcells⟩, ⟨.slice al m cl, 36, 2, m, Ls.flatMap kcells⟩, ⟨.slice az n cz, 33, 2, n, (zos Zn).flatMap zcells⟩] W wx)
      case first =>
        by_cases hm0 : m = 0
        · have hmN : ¬ 0 < m := by omega
          have HM0 := Lib.hid hm0
          clear hm0
          go_wp2_with fail
          go_meet
          refine ⟨al2, cl2, ?_⟩
          have e : Ls = L2 := by
            have h0 : Ls = [] := List.length_eq_zero_iff.1 (by rw [HLl.out, HM0.out])
            rw [← HL2.out, h0]
            unfold rot
            rw [List.drop_nil, List.take_nil]
            rfl
          have h := HK3.out.swap
          rw [e] at h ⊢
          exact h
        · have hmN : 0 < m := by omega
          have hm01 : ¬ m = 0 := by omega
          have hmI : ¬ (m : Int) = 0 := by omega
          have hkb : by1 % m = kb := HKB.out
          have hkbm : kb < m := by rw [← hkb]; exact Nat.mod_lt _ (by omega)
          have hbT : (by1 : Int).tmod (m : Int) = (kb : Int) := by rw [← hkb, Int.tmod_eq_emod_of_nonneg (by omega)]; simp
          have hbI : (by1 : Int) % (m : Int) = (kb : Int) := by rw [← hkb]; simp
          have hwkb : IntKind.i64.wrap (kb : Int) = (kb : Int) := IntWalk.i64_in _ (by omega)
          obtain ⟨g5, rfl, -, hc5, hc5b, hg5⟩ := own_some (HK3.out.row 1 rfl) hmN
          have hc5 : m ≤ cl2 := hc5
          have hbmN : kb ≤ m := by omega
          have hbck : ¬ cl2 = kb := by omega
          have hbcN : kb ≤ cl2 := by omega
          have hb0 : (0 : Int) ≤ (kb : Int) := by omega
          have hbm2 : (kb : Int) ≤ (m : Int) := by omega
          have hbkc : (kb : Int) ≤ (cl2 : Int) := by omega
          clear hkb hm0
          have KD := Lib.hid HK3.out.drew
          have HV1 := Lib.hid (fun (Y : World) (hs : Y.ownsRow W.heap.size 36 2 (.slice (some ⟨g5, 0, none⟩) m cl2) m (Ls.flatMap kcells)) => rows_part kcells (fun _ => rfl) (SlV.of_own hs) HLl.out hbmN (Nat.le_refl m) hmN)
          have HV2 := Lib.hid (fun (Y : World) (hs : Y.ownsRow W.heap.size 36 2 (.slice (some ⟨g5, 0, none⟩) m cl2) m (Ls.flatMap kcells)) => rows_part kcells (fun _ => rfl) (SlV.of_own hs) HLl.out (Nat.zero_le kb) hbmN hmN)
          have HD := Lib.hid (show (Ls.drop kb).length = m - kb by rw [List.length_drop, HLl.out])
          have HRk := Lib.hid (show (Ls.drop kb).length + (Ls.take kb).length = m by rw [List.length_drop, List.length_take, HLl.out]; omega)
          have HRo := Lib.hid (show (Ls.drop kb).flatMap kcells ++ (Ls.take kb).flatMap kcells = L2.flatMap kcells by
            rw [← HL2.out, ← List.flatMap_append]
            rfl)
          go_upto_region 7 with fail
          go_region_law
            (first
            | (go_simp; go_at_call 11; refine (clone_links (Ls.drop kb) _ _ (by have h := HV1.out _ (KD.out.row 1 rfl); rw [List.take_of_length_le (by rw [HD.out]; exact Nat.le_refl _)] at h; simpa [HD.out] using h) (by intro c h; simp at h) (by rw [HD.out]; omega)).mono ?_; rintro e X ⟨v', rfl, hkx⟩; have KX := Lib.hid (KD.out.adopt hkx); obtain ⟨z0, z1, z2, z3⟩ := row4 (KX.out.at 0 rfl); clear hkx)
            | (obtain ⟨va, wa, hra, hka⟩ := append_links KX.out (Ls.take kb) (.slice (some ⟨g5, 0, none⟩) kb cl2) (by have h := HV2.out X (KX.out.row 2 rfl); simpa using h) (by intro c h; simp at h) (by rw [HRk.out]; omega); rw [HRk.out, HRo.out] at hka; obtain ⟨a6, c6, rfl⟩ : ∃ a c, va = .slice a m c := own_slice (hka.row 0 rfl); refine step_append_eq (by rfl) (.tmp 52) (.tmp 56) 24 (by rfl) _ _ _ wa (by rfl) (by rfl) hra ?_; have KA := Lib.hid hka; obtain ⟨b0, b1, b2, b3⟩ := row4 (KA.out.at 0 rfl); have b4 := free_at (KA.out.at 0 rfl) 2; clear hra hka))
          all_goals
            (try go_wp2_with fail)
            go_meet
            exact ⟨a6, c6, (KA.out.set 0 rfl 2 (.slice a6 m c6) rfl).less (List.Sublist.cons_cons _ (List.Sublist.cons_cons _ (List.Sublist.cons _ (List.Sublist.refl _))))⟩
      case rest =>
        obtain ⟨al3, cl3, hk⟩ := hcut
        have HK4 := Lib.hid hk
        clear hk HK3 y0 y1 y2 y3
        have HSA := Lib.hid (fun (Y : World) (hY : Kp [(T, .cells #[.slice none 0 0, .slice az3 n cz3, .slice al3 m cl3, .slice none 0 0] 27 (0, 0)), (S, .cells #[.slice none 0 0, .slice az n cz, .slice al m cl, .slice none 0 0] 27 (0, 0)), (W.heap.size, .cells #[.int .u8 (z : Int), .int .u8 (l : Int), .slice ta q tc, .int .u8 (t : Int)] 50 (0, 0))] [⟨.slice al3 m cl3, 36, 2, m, L2.flatMap kcells⟩, ⟨.slice az3 n cz3, 33, 2, n, (zos Z2).flatMap zcells⟩, ⟨.slice al m cl, 36, 2, m, Ls.flatMap kcells⟩, ⟨.slice az n cz, 33, 2, n, (zos Zn).flatMap zcells⟩] W Y) => src_own (hY.row 3 rfl) (hY.row 2 rfl) HZl.out HLl.out HZb.out HLb.out)
        have HSB := Lib.hid (fun (Y : World) (hY : Kp [(T, .cells #[.slice none 0 0, .slice az3 n cz3, .slice al3 m cl3, .slice none 0 0] 27 (0, 0)), (S, .cells #[.slice none 0 0, .slice az n cz, .slice al m cl, .slice none 0 0] 27 (0, 0)), (W.heap.size, .cells #[.int .u8 (z : Int), .int .u8 (l : Int), .slice ta q tc, .int .u8 (t : Int)] 50 (0, 0))] [⟨.slice al3 m cl3, 36, 2, m, L2.flatMap kcells⟩, ⟨.slice az3 n cz3, 33, 2, n, (zos Z2).flatMap zcells⟩, ⟨.slice al m cl, 36, 2, m, Ls.flatMap kcells⟩, ⟨.slice az n cz, 33, 2, n, (zos Zn).flatMap zcells⟩] W Y) => src_own (hY.row 1 rfl) (hY.row 0 rfl) HZ2l.out HL2l.out HZ2b.out HL2b.out)
        have HZo2 := Lib.hid (show (zos Z2).length = n by unfold zos; rw [List.length_map]; exact HZ2l.out)
        go_upto_region 8 with fail
        go_cut [69] from 59 to 70 (fun v69 wx => v69 = .bool false ∧ Kp [(T, .cells #[.slice none 0 0, .slice az3 n cz3, .slice al3 m cl3, .slice none 0 0] 27 (0, 0)), (S, .cells #[.slice none 0 0, .slice az n cz, .slice al m cl, .slice none 0 0] 27 (0, 0)), (W.heap.size, .cells #[.int .u8 (z : Int), .int .u8 (l : Int), .slice ta q tc, .int .u8 (t : Int)] 50 (0, 0))] [⟨.slice al3 m cl3, 36, 2, m, L2.flatMap kcells⟩, ⟨.slice az3 n cz3, 33, 2, n, (zos Z2).flatMap zcells⟩, ⟨.slice al m cl, 36, 2, m, Ls.flatMap kcells⟩, ⟨.slice az n cz, 33, 2, n, (zos Zn).flatMap zcells⟩] W wx)
        case first =>
          have KD := Lib.hid HK4.out.drew
          obtain ⟨y0, y1, y2, y3⟩ := row4 (KD.out.at 0 rfl); obtain ⟨y4, y5, y6, y7⟩ := row4 (KD.out.at 1 rfl)
          have CE := Lib.hid (fun (va vb : Value) (Y : World) (h1 : SlV Y va 1 A.length (A.map svv)) (h2 : SlV Y vb 1 A.length (A.map svv)) => (show Calls Tryd.prog 17 #[va, vb] Y fun e w' => e = .returned (.bool true) ∧ Below Y.heap.size Y w' by
            have h := equal_strs A A va vb Y h1 h2
            rw [decide_eq_true rfl] at h
            exact h))
          go_region_law
            (first
            | (go_simp; go_at_call 21; refine (checks_ok (.slice none 0 0) (.slice az3 n cz3) (.slice al3 m cl3) (.slice none 0 0) (zos Z2) L2 0 0 0 _ (HSB.out _ KD.out) (by rw [HZo2.out]; omega) (by rw [HL2l.out]; omega) (by rw [zos_names]; exact HF2.out)).mono ?_; rintro e X1 ⟨rfl, hb⟩; have K5 := Lib.hid (KD.out.keep hb); obtain ⟨x0, x1, x2, x3⟩ := row4 (K5.out.at 0 rfl); obtain ⟨x4, x5, x6, x7⟩ := row4 (K5.out.at 1 rfl); clear hb)
            | (go_simp; go_at_call 18; have gg := K5.out; clear gg; refine (names_any (.slice none 0 0) (.slice az n cz) (.slice al m cl) (.slice none 0 0) (zos Zn) Ls _ (HSA.out _ K5.out) (by rw [HZo.out]; omega) (by rw [HLl.out]; omega)).mono ?_; rintro e X2 ⟨nv, rfl, hs, hb⟩; rw [zos_names, HA.out] at hs; have HS2 := Lib.hid hs; have K6 := Lib.hid (K5.out.keep hb); obtain ⟨z0, z1, z2, z3⟩ := row4 (K6.out.at 0 rfl); obtain ⟨z4, z5, z6, z7⟩ := row4 (K6.out.at 1 rfl); clear hb hs K5)
            | (go_simp; go_at_call 18; have gg := K6.out; clear gg; refine (names_any (.slice none 0 0) (.slice az3 n cz3) (.slice al3 m cl3) (.slice none 0 0) (zos Z2) L2 _ (HSB.out _ K6.out) (by rw [HZo2.out]; omega) (by rw [HL2l.out]; omega)).mono ?_; rintro e X3 ⟨nv2, rfl, hs, hb⟩; rw [zos_names, HA2.out] at hs; have HS3 := Lib.hid hs; have HS4 := Lib.hid (HS2.out.keep hb); have K7 := Lib.hid (K6.out.keep hb); clear hb hs K6)
            | (go_simp; go_at_call 17; refine (CE.out _ _ _ HS4.out HS3.out).mono ?_; rintro e X4 ⟨rfl, hb⟩; have K8 := Lib.hid (K7.out.keep hb); clear hb))
          all_goals
            (try go_wp2_with fail)
            go_meet
            exact ⟨rfl, K8.out⟩
        case rest =>
          obtain ⟨rfl, hk⟩ := hcut
          have HK5 := Lib.hid hk
          clear hk HK4
          obtain ⟨x4, x5, x6, x7⟩ := row4 (HK5.out.at 1 rfl)
          go_wp2_with (first | (go_at_call 18; refine (names_any (.slice none 0 0) (.slice az n cz) (.slice al m cl) (.slice none 0 0) (zos Zn) Ls _ (HSA.out _ HK5.out) (by rw [HZo.out]; omega) (by rw [HLl.out]; omega)).mono ?_; rintro e X5 ⟨nv, rfl, hs, hb⟩; rw [zos_names, HA.out, HN.out] at hs; obtain ⟨na, nc, rfl, hnc1, hnc2⟩ := hs.slA; have HS5 := Lib.hid hs; have K6 := Lib.hid (HK5.out.keep hb); clear hb hs))
          clear x4 x5 x6 x7 HK5
          go_loopw [13, 14, 15, 16, 17, 73] (fun _ _ _ _ _ i73 wr => ∃ i : Nat, i ≤ N ∧ i73 = .int .i64 (i : Int) ∧ Kp [(T, .cells #[.slice none 0 0, .slice az3 n cz3, .slice al3 m cl3, .slice none 0 0] 27 (0, 0)), (S, .cells #[.slice none 0 0, .slice az n cz, .slice al m cl, .slice none 0 0] 27 (0, 0)), (W.heap.size, .cells #[.int .u8 (z : Int), .int .u8 (l : Int), .slice ta q tc, .int .u8 (t : Int)] 50 (0, 0))] [⟨.slice al3 m cl3, 36, 2, m, L2.flatMap kcells⟩, ⟨.slice az3 n cz3, 33, 2, n, (zos Z2).flatMap zcells⟩, ⟨.slice al m cl, 36, 2, m, Ls.flatMap kcells⟩, ⟨.slice az n cz, 33, 2, n, (zos Zn).flatMap zcells⟩] W wr ∧ Below X5.heap.size X5 wr) (fun _ _ _ _ _ i73 _ => N - (intOf i73).toNat)
          case atStart => exact ⟨0, by omega, rfl, K6.out, Below.refl _ _⟩
          case round =>
            obtain ⟨i, hi', rfl, hk, hbx⟩ := hrel
            have HK := Lib.hid hk
            have HB := Lib.hid hbx
            clear hk hbx K6
            by_cases hlt : i < N
            · obtain ⟨nb, no, nc1, e1, _, _, hnb, hcell⟩ := HS5.out.allA (show 0 < N by omega)
              simp only [Value.slice.injEq] at e1
              obtain ⟨rfl, _, rfl⟩ := e1
              obtain ⟨x, hx⟩ : ∃ x, A[i]? = some x := ⟨_, List.getElem?_eq_getElem (by rw [HN.out]; exact hlt)⟩
              have hxA : x ∈ A := List.mem_of_getElem? hx
              obtain ⟨p1, p2, hp1, hp2, hf1, hf2, hnm⟩ := HFx.out x hxA
              have hxl := HAl.out x hxA
              have k0 := (HB.out.cell (p := ⟨nb, no + i, none⟩) hnb).trans (hcell i (.string (bs x)) (by rw [List.getElem?_map, hx]; rfl))
              obtain ⟨sx, hsx⟩ : ∃ s, bs x = s := ⟨_, rfl⟩
              rw [hsx] at k0
              have CF1 := Lib.hid (fun (Y : World) (hY : Kp [(T, .cells #[.slice none 0 0, .slice az3 n cz3, .slice al3 m cl3, .slice none 0 0] 27 (0, 0)), (S, .cells #[.slice none 0 0, .slice az n cz, .slice al m cl, .slice none 0 0] 27 (0, 0)), (W.heap.size, .cells #[.int .u8 (z : Int), .int .u8 (l : Int), .slice ta q tc, .int .u8 (t : Int)] 50 (0, 0))] [⟨.slice al3 m cl3, 36, 2, m, L2.flatMap kcells⟩, ⟨.slice az3 n cz3, 33, 2, n, (zos Z2).flatMap zcells⟩, ⟨.slice al m cl, 36, 2, m, Ls.flatMap kcells⟩, ⟨.slice az n cz, 33, 2, n, (zos Zn).flatMap zcells⟩] W Y) => find_any (.slice none 0 0) (.slice az n cz) (.slice al m cl) (.slice none 0 0) (zos Zn) Ls x Y (HSA.out Y hY) (by unfold maxLen; omega) (by rw [HZo.out]; omega) (by rw [HLl.out]; omega))
              have CF2 := Lib.hid (fun (Y : World) (hY : Kp [(T, .cells #[.slice none 0 0, .slice az3 n cz3, .slice al3 m cl3, .slice none 0 0] 27 (0, 0)), (S, .cells #[.slice none 0 0, .slice az n cz, .slice al m cl, .slice none 0 0] 27 (0, 0)), (W.heap.size, .cells #[.int .u8 (z : Int), .int .u8 (l : Int), .slice ta q tc, .int .u8 (t : Int)] 50 (0, 0))] [⟨.slice al3 m cl3, 36, 2, m, L2.flatMap kcells⟩, ⟨.slice az3 n cz3, 33, 2, n, (zos Z2).flatMap zcells⟩, ⟨.slice al m cl, 36, 2, m, Ls.flatMap kcells⟩, ⟨.slice az n cz, 33, 2, n, (zos Zn).flatMap zcells⟩] W Y) => find_any (.slice none 0 0) (.slice az3 n cz3) (.slice al3 m cl3) (.slice none 0 0) (zos Z2) L2 x Y (HSB.out Y hY) (by unfold maxLen; omega) (by rw [HZo2.out]; omega) (by rw [HL2l.out]; omega))
              rw [hsx, zos_names, hf1] at CF1
              rw [hsx, zos_names, hf2] at CF2
              clear hsx hx hxA hf1 hf2 hcell
              obtain ⟨x0, x1, x2, x3⟩ := row4 (HK.out.at 0 rfl)
              obtain ⟨x4, x5, x6, x7⟩ := row4 (HK.out.at 1 rfl)
              have hpn1 : ¬ (n : Int) ≤ (p1 : Int) := by omega
              have hpn2 : ¬ (n : Int) ≤ (p2 : Int) := by omega
              have hpn3 : ¬ n ≤ p1 := by omega
              have hpn4 : ¬ n ≤ p2 := by omega
              have hp01 : ¬ (p1 : Int) < 0 := by omega
              have hp02 : ¬ (p2 : Int) < 0 := by omega
              go_upto_region 15 with (first
                | (go_at_call 13; have gg := HK.out; clear gg; refine (CF1.out _ HK.out).mono ?_; rintro e X6 ⟨rfl, hb⟩; have K7 := Lib.hid (HK.out.keep hb); have B7 := Lib.hid (HB.out.trans (hb.mono HB.out.size)); obtain ⟨z0, z1, z2, z3⟩ := row4 (K7.out.at 0 rfl); obtain ⟨z4, z5, z6, z7⟩ := row4 (K7.out.at 1 rfl); clear hb HK HB)
                | (go_at_call 13; refine (CF2.out _ K7.out).mono ?_; rintro e X7 ⟨rfl, hb⟩; have K8 := Lib.hid (K7.out.keep hb); have B8 := Lib.hid (B7.out.trans (hb.mono B7.out.size)); clear hb))
              clear z0 z1 z2 z3 z4 z5 z6 z7
              obtain ⟨g1, rfl, -, hq1, hq1b, hg1⟩ := own_some (K8.out.row 3 rfl) (show 0 < n by omega)
              obtain ⟨g2, rfl, -, hq2, hq2b, hg2⟩ := own_some (K8.out.row 1 rfl) (show 0 < n by omega)
              have c1 := own_cell (K8.out.row 3 rfl) (zo_get (l := Zn) (i := p1) (by rw [HZl.out]; exact hp1))
              have c2 := own_cell (K8.out.row 1 rfl) (zo_get (l := Z2) (i := p2) (by rw [HZ2l.out]; exact hp2))
              rw [hnm] at c1
              obtain ⟨sz, hsz⟩ : ∃ s, bs (Z2.getD p2 []) = s := ⟨_, rfl⟩
              rw [hsz] at c1 c2
              clear hsz hnm
              obtain ⟨z0, z1, z2, z3⟩ := row4 (K8.out.at 0 rfl)
              obtain ⟨z4, z5, z6, z7⟩ := row4 (K8.out.at 1 rfl)
              go_quiet (fail)
              go_wp2_with fail
              go_roundw
              case rel => exact ⟨i + 1, by omega, by go_num, K8.out.keep (below_drewN (Below.refl _ _) nq), below_drewN B8.out _⟩
              case measure => simp [intOf]; omega
            · obtain rfl : N = i := by omega
              go_wp2_with (first | (go_at_call 9; refine (CW.out _).mono ?_; rintro e X8 ⟨rfl, hb8⟩; have K8 := Lib.hid (HK.out.keep hb8); clear hb8))
              exact bodyPost_ret (v := .bool true) (by simp [results, Tryd.results5, go_sem]) rfl ⟨rfl, K8.out.below⟩
end Go.Proofs.YtdeompnaojiajaaDoor.Px
