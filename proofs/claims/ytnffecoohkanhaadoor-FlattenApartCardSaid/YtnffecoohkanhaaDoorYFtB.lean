/- The function copied of package flatten: a source in new memory. -/
import Derived.Test.YtnffecoohkanhaaDoorYFtA
import Derived.Deep.RegionHeld3
namespace Go.Proofs.YtnffecoohkanhaaDoor.Px
open Go.RowKit
open Go.Maps (Keyed)
open Lk

/-- a zone: its name, how many eras it has, their cells -/
structure Zq where
  nm : List UInt8
  m : Nat
  ys : List Value
/-- a zone in memory -/
structure ZqOk (W : World) (z : Zq) (o : Zo) : Prop where
  nm : o.1 = z.nm
  sl : SlV W (.slice o.2.1 o.2.2.1 o.2.2.2) 13 z.m z.ys
  nil : ∀ c, (.slice o.2.1 o.2.2.1 o.2.2.2 : Value) = .slice none z.m c → c = 0
  one : ∀ u ∈ z.ys, u.oneCell' = true
  few : z.m ≤ 1000000
theorem ZqOk.keep {W W' : World} {z : Zq} {o : Zo} (h : ZqOk W z o) (hB : Below W.heap.size W W') : ZqOk W' z o := ⟨h.nm, h.sl.keep hB, h.nil, h.one, h.few⟩
/-- the eras of a zone, as a slice that the call owns -/
def eraR (p : Zq × Zo) : Rw := ⟨.slice p.2.2.1 p.2.2.2.1 p.2.2.2.2, 81, 13, p.1.m, p.1.ys⟩
set_option maxHeartbeats 8000000 in
set_option maxRecDepth 100000 in
theorem copied_any (rv zv lv sv : Value) (nr ns : Nat) (rs ss : List Value) (Z : List Zq) (Q : List Zo) (Ls : List (List UInt8 × List UInt8)) (W : World) (hr : SlV W rv 11 nr rs) (hz : ZoV W zv Q) (hl : LkV W lv Ls) (hs : SlV W sv 1 ns ss)
    (hr1 : ∀ u ∈ rs, u.oneCell' = true) (hs1 : ∀ u ∈ ss, u.oneCell' = true) (hrn : ∀ c, rv = .slice none nr c → c = 0) (hln : ∀ c, lv = .slice none Ls.length c → c = 0) (hsn : ∀ c, sv = .slice none ns c → c = 0)
    (hlen : Q.length = Z.length) (hq : ∀ (i : Nat) (z : Zq) (o : Zo), Z[i]? = some z → Q[i]? = some o → ZqOk W z o) (h1 : nr ≤ 1000000) (h2 : ns ≤ 1000000) (h3 : Ls.length ≤ 1000000) (h4 : Z.length ≤ 1000) :
    Calls Tryd.prog 29 #[.agg #[rv, zv, lv, sv]] W fun e w' => ∃ (rv2 zv2 lv2 sv2 : Value) (E : List (Zq × Zo)), e = .returned (.agg #[rv2, zv2, lv2, sv2]) ∧ E.map Prod.fst = Z ∧ (∀ p ∈ E, p.2.1 = p.1.nm) ∧
      Kp [] (⟨zv2, 40, 2, Z.length, (E.map Prod.snd).flatMap zcells⟩ :: ⟨sv2, 9, 1, ns, ss⟩ :: ⟨lv2, 43, 2, Ls.length, Ls.flatMap kcells⟩ :: ⟨rv2, 36, 11, nr, rs⟩ :: E.reverse.map eraR) W w' := by
  obtain ⟨ra, rc, rfl, _, _⟩ := hr.slA
  obtain ⟨za, zc, rfl, hz1, hz2⟩ := SlV.slA hz
  obtain ⟨la, lc, rfl, _, _⟩ := SlV.slA hl
  obtain ⟨sa, sc, rfl, _, _⟩ := hs.slA
  have hall := fun h0 => SlV.allA hz h0
  obtain ⟨nz, hnz⟩ : ∃ n, Q.length = n := ⟨_, rfl⟩
  obtain ⟨nl, hnl⟩ : ∃ n, Ls.length = n := ⟨_, rfl⟩
  rw [hnz] at hall hlen hz1
  have hzl : Z.length = nz := hlen.symm
  rw [hzl] at h4 ⊢
  unfold LkV at hl
  unfold maxLen at hz2
  rw [hnl] at hl hln h3 ⊢
  rw [hnz]
  have HVr := Lib.hid hr
  have HVl := Lib.hid hl
  have HVs := Lib.hid hs
  have HR1 := Lib.hid hr1
  have HL1 := Lib.hid (one_links (l := Ls))
  have HS1 := Lib.hid hs1
  have HRn := Lib.hid hrn
  have HLn := Lib.hid hln
  have HSn := Lib.hid hsn
  have HQ := Lib.hid hq
  have HA := Lib.hid hall
  have HNz := Lib.hid hnz
  have HZl := Lib.hid hzl
  have K0 := Lib.hid (((Kp.start W).allocAt W.heap.size rfl (.cells #[.slice ra nr rc, .slice za nz zc, .slice la nl lc, .slice sa ns sc] 27)).allocAt (W.heap.size + 1) (by simp) (.cells #[.slice none 0 0, .slice none 0 0, .slice none 0 0, .slice none 0 0] 27))
  obtain ⟨W1, hW1⟩ : ∃ X, (W.alloc (.cells #[.slice ra nr rc, .slice za nz zc, .slice la nl lc, .slice sa ns sc] 27)).alloc (.cells #[.slice none 0 0, .slice none 0 0, .slice none 0 0, .slice none 0 0] 27) = X := ⟨_, rfl⟩
  rw [hW1] at K0
  clear hr hz hl hs hr1 hs1 hrn hln hsn hlen hq hall hnz hnl hzl
  go_enter Tryd.func29, Tryd.ntmps29
  go_upto_region 1 with fail
  clear hW1
  have KD := Lib.hid K0.out.drew
  go_cut [3] from 6 to 16 (fun v3 wx => ∃ (O : Nat) (ra2 la2 sa2 : Option Addr) (rc2 lc2 sc2 : Nat), v3 = .pointer (some ⟨O, 0, none⟩) ∧ Kp [(O, .cells #[.slice ra2 nr rc2, .slice none 0 0, .slice la2 nl lc2, .slice sa2 ns sc2] 27 (0, 0)), (W.heap.size + 1, .cells #[.slice none 0 0, .slice none 0 0, .slice none 0 0, .slice none 0 0] 27 (0, 0)), (W.heap.size, .cells #[.slice ra nr rc, .slice za nz zc, .slice la nl lc, .slice sa ns sc] 27 (0, 0))] [⟨.slice sa2 ns sc2, 9, 1, ns, ss⟩, ⟨.slice la2 nl lc2, 43, 2, nl, Ls.flatMap kcells⟩, ⟨.slice ra2 nr rc2, 36, 11, nr, rs⟩] W wx)
  case first =>
    refine wp_region_noPanic ?_
    refine wp_region_held_drew (S := fun w' => w'.cell? ⟨W.heap.size, 0, none⟩ = some (.slice ra nr rc) ∧ w'.cell? ⟨W.heap.size, 1, none⟩ = some (.slice za nz zc) ∧ w'.cell? ⟨W.heap.size, 2, none⟩ = some (.slice la nl lc) ∧ w'.cell? ⟨W.heap.size, 3, none⟩ = some (.slice sa ns sc)) (by kernel_rfl) (row4 (KD.out.at 1 rfl)) (fun hHeld => ?_)
    obtain ⟨Y0, hY0⟩ : ∃ Y, W1.drew = Y := ⟨_, rfl⟩
    rw [hY0] at KD hHeld ⊢
    clear hY0
    refine wpAnyH_take (i := 0) (v := .pointer (some ⟨W.heap.size, 0, none⟩)) rfl (by kernel_rfl) (by kernel_rfl) (by kernel_rfl) (fun _ _ _ h => h) (Or.inl ⟨by rfl, ?_⟩) (by assumption) ?_
    · intro w hSw
      obtain ⟨s0, s1, s2, s3⟩ := hSw
      go_simp
    (try simp only [Act.put, List.setIfInBounds_toArray])
    refine wpAnyH_take (i := 1) (v := .slice ra nr rc) rfl (by kernel_rfl) (by kernel_rfl) (by kernel_rfl) (fun _ _ _ h => h) (Or.inl ⟨by rfl, ?_⟩) (by assumption) ?_
    · intro w hSw
      obtain ⟨s0, s1, s2, s3⟩ := hSw
      go_simp
    (try simp only [Act.put])
    refine wpAnyH_take (i := 3) (v := .pointer (some ⟨W.heap.size, 2, none⟩)) rfl (by kernel_rfl) (by kernel_rfl) (by kernel_rfl) (fun _ _ _ h => h) (Or.inl ⟨by rfl, ?_⟩) (by assumption) ?_
    · intro w hSw
      obtain ⟨s0, s1, s2, s3⟩ := hSw
      go_simp
    (try simp only [Act.put])
    refine wpAnyH_take (i := 4) (v := .slice la nl lc) rfl (by kernel_rfl) (by kernel_rfl) (by kernel_rfl) (fun _ _ _ h => h) (Or.inl ⟨by rfl, ?_⟩) (by assumption) ?_
    · intro w hSw
      obtain ⟨s0, s1, s2, s3⟩ := hSw
      go_simp
    (try simp only [Act.put])
    refine wpAnyH_take (i := 6) (v := .pointer (some ⟨W.heap.size, 3, none⟩)) rfl (by kernel_rfl) (by kernel_rfl) (by kernel_rfl) (fun _ _ _ h => h) (Or.inl ⟨by rfl, ?_⟩) (by assumption) ?_
    · intro w hSw
      obtain ⟨s0, s1, s2, s3⟩ := hSw
      go_simp
    (try simp only [Act.put])
    refine wpAnyH_take (i := 7) (v := .slice sa ns sc) rfl (by kernel_rfl) (by kernel_rfl) (by kernel_rfl) (fun _ _ _ h => h) (Or.inl ⟨by rfl, ?_⟩) (by assumption) ?_
    · intro w hSw
      obtain ⟨s0, s1, s2, s3⟩ := hSw
      go_simp
    (try simp only [Act.put])
    refine wpAnyH_ready (rs := [2, 10]) (by kernel_rfl) (by simp) ?_
    refine AllReadyH.cons rfl (fun K hK => ?_) ?_
    case refine_1 =>
      go_simp
      go_at_call 10
      refine (clone_rules nr rs _ _ (HVr.out.keep KD.out.below) HR1.out HRn.out (by omega)).mono ?_
      rintro e X1 ⟨vv, rfl, hk⟩
      obtain ⟨ra2, rc2, rfl⟩ : ∃ a c, vv = .slice a nr c := own_slice (hk.row 0 rfl)
      have K1 := Lib.hid (KD.out.adopt hk)
      clear hk
      (try go_wp2_with fail)
      clear hHeld
      refine hK.out _ _ ?_ (fun hHeld => ?_)
      · exact row4 (K1.out.at 1 rfl)
      clear hK K
      (try simp only [Act.put, List.setIfInBounds_toArray, List.set_cons_zero, List.set_cons_succ])
      refine wpAnyH_ready (rs := [5, 10]) (by kernel_rfl) (by simp) ?_
      refine AllReadyH.cons rfl (fun K hK => ?_) ?_
      case refine_1 =>
        go_simp
        go_at_call 12
        refine (clone_linksF nl (Ls.flatMap kcells) _ _ (HVl.out.keep K1.out.below) HL1.out HLn.out (by omega)).mono ?_
        rintro e X2 ⟨vv, rfl, hk⟩
        obtain ⟨la2, lc2, rfl⟩ : ∃ a c, vv = .slice a nl c := own_slice (hk.row 0 rfl)
        have K2 := Lib.hid (K1.out.adopt hk)
        clear hk
        (try go_wp2_with fail)
        clear hHeld
        refine hK.out _ _ ?_ (fun hHeld => ?_)
        · exact row4 (K2.out.at 1 rfl)
        clear hK K
        (try simp only [Act.put, List.setIfInBounds_toArray, List.set_cons_zero, List.set_cons_succ])
        refine wpAnyH_ready (rs := [8, 10]) (by kernel_rfl) (by simp) ?_
        refine AllReadyH.cons rfl (fun K hK => ?_) ?_
        case refine_1 =>
          go_simp
          go_at_call 13
          refine (clone_strs ns ss _ _ (HVs.out.keep K2.out.below) HS1.out HSn.out (by omega)).mono ?_
          rintro e X3 ⟨vv, rfl, hk⟩
          obtain ⟨sa2, sc2, rfl⟩ : ∃ a c, vv = .slice a ns c := own_slice (hk.row 0 rfl)
          have K3 := Lib.hid (K2.out.adopt hk)
          clear hk
          (try go_wp2_with fail)
          clear hHeld
          refine hK.out _ _ ?_ (fun hHeld => ?_)
          · exact row4 (K3.out.at 1 rfl)
          clear hK K
          (try simp only [Act.put, List.setIfInBounds_toArray, List.set_cons_zero, List.set_cons_succ])
          refine wpAnyH_take (i := 9) (v := .agg #[.slice ra2 nr rc2, .slice none 0 0, .slice la2 nl lc2, .slice sa2 ns sc2]) rfl (by kernel_rfl) (by kernel_rfl) (by kernel_rfl) (fun _ _ _ h => h) (Or.inl ⟨by rfl, ?_⟩) (by assumption) ?_
          · intro w hSw
            go_simp
          (try simp only [Act.put, List.setIfInBounds_toArray])
          refine wpAnyH_ready (rs := [10]) (by kernel_rfl) (by simp) ?_
          refine AllReadyH.cons rfl (fun K hK => ?_) ?_
          case refine_1 =>
            have K4 := Lib.hid (K3.out.alloc (.cells #[.slice none 0 0, .slice none 0 0, .slice none 0 0, .slice none 0 0] 27))
            go_simp
            clear hHeld
            refine hK.out _ _ ?_ (fun hHeld => ?_)
            · exact row4 (K4.out.at 2 rfl)
            clear hK K
            (try simp only [Act.put, List.setIfInBounds_toArray, List.set_cons_zero, List.set_cons_succ])
            obtain ⟨O, hO⟩ : ∃ b, X3.heap.size = b := ⟨_, rfl⟩
            obtain ⟨Y4, hY⟩ : ∃ Y, X3.alloc (.cells #[.slice none 0 0, .slice none 0 0, .slice none 0 0, .slice none 0 0] 27) = Y := ⟨_, rfl⟩
            rw [hY] at K4 hHeld ⊢
            rw [hO] at K4 ⊢
            clear hY hO
            refine wpAnyH_ready (rs := [11]) (by kernel_rfl) (by simp) ?_
            refine AllReadyH.cons rfl (fun K hK => ?_) ?_
            case refine_1 =>
              obtain ⟨s0, s1, s2, s3⟩ := row4 (K4.out.at 0 rfl)
              have f0 := free_at (K4.out.at 0 rfl) 0
              have f1 := free_at (K4.out.at 0 rfl) 1
              have f2 := free_at (K4.out.at 0 rfl) 2
              have f3 := free_at (K4.out.at 0 rfl) 3
              have K5 := Lib.hid ((((K4.out.set 0 rfl 0 (.slice ra2 nr rc2) rfl).set 0 rfl 1 (.slice none 0 0) rfl).set 0 rfl 2 (.slice la2 nl lc2) rfl).set 0 rfl 3 (.slice sa2 ns sc2) rfl)
              go_simp
              clear s0 s1 s2 s3 f0 f1 f2 f3
              clear hHeld
              refine hK.out _ _ ?_ (fun hHeld => ?_)
              · exact row4 (K5.out.at 2 rfl)
              clear hK K
              (try simp only [Act.put, List.setIfInBounds_toArray, List.set_cons_zero, List.set_cons_succ])
              refine wpAnyH_done (by kernel_rfl) ?_ _
              refine NoPanic.normal ?_
              (try go_wp2_with fail)
              go_meet
              exact ⟨O, _, _, _, _, _, _, rfl, K5.out⟩
            exact AllReadyH.nil
          exact AllReadyH.nil
        refine AllReadyH.cons rfl (fun K hK => ?_) ?_
        case refine_1 =>
          have K6 := Lib.hid (K2.out.alloc (.cells #[.slice none 0 0, .slice none 0 0, .slice none 0 0, .slice none 0 0] 27))
          go_simp
          clear hHeld
          refine hK.out _ _ ?_ (fun hHeld => ?_)
          · exact row4 (K6.out.at 2 rfl)
          clear hK K
          (try simp only [Act.put, List.setIfInBounds_toArray, List.set_cons_zero, List.set_cons_succ])
          obtain ⟨O, hO⟩ : ∃ b, X2.heap.size = b := ⟨_, rfl⟩
          obtain ⟨Y6, hY⟩ : ∃ Y, X2.alloc (.cells #[.slice none 0 0, .slice none 0 0, .slice none 0 0, .slice none 0 0] 27) = Y := ⟨_, rfl⟩
          rw [hY] at K6 hHeld ⊢
          rw [hO] at K6 ⊢
          clear hY hO
          refine wpAnyH_ready (rs := [8]) (by kernel_rfl) (by simp) ?_
          refine AllReadyH.cons rfl (fun K hK => ?_) ?_
          case refine_1 =>
            go_simp
            go_at_call 13
            refine (clone_strs ns ss _ _ (HVs.out.keep K6.out.below) HS1.out HSn.out (by omega)).mono ?_
            rintro e X3 ⟨vv, rfl, hk⟩
            obtain ⟨sa2, sc2, rfl⟩ : ∃ a c, vv = .slice a ns c := own_slice (hk.row 0 rfl)
            have K7 := Lib.hid (K6.out.adopt hk)
            clear hk
            (try go_wp2_with fail)
            clear hHeld
            refine hK.out _ _ ?_ (fun hHeld => ?_)
            · exact row4 (K7.out.at 2 rfl)
            clear hK K
            (try simp only [Act.put, List.setIfInBounds_toArray, List.set_cons_zero, List.set_cons_succ])
            refine wpAnyH_take (i := 9) (v := .agg #[.slice ra2 nr rc2, .slice none 0 0, .slice la2 nl lc2, .slice sa2 ns sc2]) rfl (by kernel_rfl) (by kernel_rfl) (by kernel_rfl) (fun _ _ _ h => h) (Or.inl ⟨by rfl, ?_⟩) (by assumption) ?_
            · intro w hSw
              go_simp
            (try simp only [Act.put, List.setIfInBounds_toArray])
            refine wpAnyH_ready (rs := [11]) (by kernel_rfl) (by simp) ?_
            refine AllReadyH.cons rfl (fun K hK => ?_) ?_
            case refine_1 =>
              obtain ⟨s0, s1, s2, s3⟩ := row4 (K7.out.at 0 rfl)
              have f0 := free_at (K7.out.at 0 rfl) 0
              have f1 := free_at (K7.out.at 0 rfl) 1
              have f2 := free_at (K7.out.at 0 rfl) 2
              have f3 := free_at (K7.out.at 0 rfl) 3
              have K8 := Lib.hid ((((K7.out.set 0 rfl 0 (.slice ra2 nr rc2) rfl).set 0 rfl 1 (.slice none 0 0) rfl).set 0 rfl 2 (.slice la2 nl lc2) rfl).set 0 rfl 3 (.slice sa2 ns sc2) rfl)
              go_simp
              clear s0 s1 s2 s3 f0 f1 f2 f3
              clear hHeld
              refine hK.out _ _ ?_ (fun hHeld => ?_)
              · exact row4 (K8.out.at 2 rfl)
              clear hK K
              (try simp only [Act.put, List.setIfInBounds_toArray, List.set_cons_zero, List.set_cons_succ])
              refine wpAnyH_done (by kernel_rfl) ?_ _
              refine NoPanic.normal ?_
              (try go_wp2_with fail)
              go_meet
              exact ⟨O, _, _, _, _, _, _, rfl, K8.out⟩
            exact AllReadyH.nil
          exact AllReadyH.nil
        exact AllReadyH.nil
      refine AllReadyH.cons rfl (fun K hK => ?_) ?_
      case refine_1 =>
        have K9 := Lib.hid (K1.out.alloc (.cells #[.slice none 0 0, .slice none 0 0, .slice none 0 0, .slice none 0 0] 27))
        go_simp
        clear hHeld
        refine hK.out _ _ ?_ (fun hHeld => ?_)
        · exact row4 (K9.out.at 2 rfl)
        clear hK K
        (try simp only [Act.put, List.setIfInBounds_toArray, List.set_cons_zero, List.set_cons_succ])
        obtain ⟨O, hO⟩ : ∃ b, X1.heap.size = b := ⟨_, rfl⟩
        obtain ⟨Y9, hY⟩ : ∃ Y, X1.alloc (.cells #[.slice none 0 0, .slice none 0 0, .slice none 0 0, .slice none 0 0] 27) = Y := ⟨_, rfl⟩
        rw [hY] at K9 hHeld ⊢
        rw [hO] at K9 ⊢
        clear hY hO
        refine wpAnyH_ready (rs := [5]) (by kernel_rfl) (by simp) ?_
        refine AllReadyH.cons rfl (fun K hK => ?_) ?_
        case refine_1 =>
          go_simp
          go_at_call 12
          refine (clone_linksF nl (Ls.flatMap kcells) _ _ (HVl.out.keep K9.out.below) HL1.out HLn.out (by omega)).mono ?_
          rintro e X2 ⟨vv, rfl, hk⟩
          obtain ⟨la2, lc2, rfl⟩ : ∃ a c, vv = .slice a nl c := own_slice (hk.row 0 rfl)
          have K10 := Lib.hid (K9.out.adopt hk)
          clear hk
          (try go_wp2_with fail)
          clear hHeld
          refine hK.out _ _ ?_ (fun hHeld => ?_)
          · exact row4 (K10.out.at 2 rfl)
          clear hK K
          (try simp only [Act.put, List.setIfInBounds_toArray, List.set_cons_zero, List.set_cons_succ])
          refine wpAnyH_ready (rs := [8]) (by kernel_rfl) (by simp) ?_
          refine AllReadyH.cons rfl (fun K hK => ?_) ?_
          case refine_1 =>
            go_simp
            go_at_call 13
            refine (clone_strs ns ss _ _ (HVs.out.keep K10.out.below) HS1.out HSn.out (by omega)).mono ?_
            rintro e X3 ⟨vv, rfl, hk⟩
            obtain ⟨sa2, sc2, rfl⟩ : ∃ a c, vv = .slice a ns c := own_slice (hk.row 0 rfl)
            have K11 := Lib.hid (K10.out.adopt hk)
            clear hk
            (try go_wp2_with fail)
            clear hHeld
            refine hK.out _ _ ?_ (fun hHeld => ?_)
            · exact row4 (K11.out.at 2 rfl)
            clear hK K
            (try simp only [Act.put, List.setIfInBounds_toArray, List.set_cons_zero, List.set_cons_succ])
            refine wpAnyH_take (i := 9) (v := .agg #[.slice ra2 nr rc2, .slice none 0 0, .slice la2 nl lc2, .slice sa2 ns sc2]) rfl (by kernel_rfl) (by kernel_rfl) (by kernel_rfl) (fun _ _ _ h => h) (Or.inl ⟨by rfl, ?_⟩) (by assumption) ?_
            · intro w hSw
              go_simp
            (try simp only [Act.put, List.setIfInBounds_toArray])
            refine wpAnyH_ready (rs := [11]) (by kernel_rfl) (by simp) ?_
            refine AllReadyH.cons rfl (fun K hK => ?_) ?_
            case refine_1 =>
              obtain ⟨s0, s1, s2, s3⟩ := row4 (K11.out.at 0 rfl)
              have f0 := free_at (K11.out.at 0 rfl) 0
              have f1 := free_at (K11.out.at 0 rfl) 1
              have f2 := free_at (K11.out.at 0 rfl) 2
              have f3 := free_at (K11.out.at 0 rfl) 3
              have K12 := Lib.hid ((((K11.out.set 0 rfl 0 (.slice ra2 nr rc2) rfl).set 0 rfl 1 (.slice none 0 0) rfl).set 0 rfl 2 (.slice la2 nl lc2) rfl).set 0 rfl 3 (.slice sa2 ns sc2) rfl)
              go_simp
              clear s0 s1 s2 s3 f0 f1 f2 f3
              clear hHeld
              refine hK.out _ _ ?_ (fun hHeld => ?_)
              · exact row4 (K12.out.at 2 rfl)
              clear hK K
              (try simp only [Act.put, List.setIfInBounds_toArray, List.set_cons_zero, List.set_cons_succ])
              refine wpAnyH_done (by kernel_rfl) ?_ _
              refine NoPanic.normal ?_
              (try go_wp2_with fail)
              go_meet
              exact ⟨O, _, _, _, _, _, _, rfl, K12.out⟩
            exact AllReadyH.nil
          exact AllReadyH.nil
        exact AllReadyH.nil
      exact AllReadyH.nil
    refine AllReadyH.cons rfl (fun K hK => ?_) ?_
    case refine_1 =>
      have K13 := Lib.hid (KD.out.alloc (.cells #[.slice none 0 0, .slice none 0 0, .slice none 0 0, .slice none 0 0] 27))
      go_simp
      clear hHeld
      refine hK.out _ _ ?_ (fun hHeld => ?_)
      · exact row4 (K13.out.at 2 rfl)
      clear hK K
      (try simp only [Act.put, List.setIfInBounds_toArray, List.set_cons_zero, List.set_cons_succ])
      obtain ⟨O, hO⟩ : ∃ b, Y0.heap.size = b := ⟨_, rfl⟩
      obtain ⟨Y13, hY⟩ : ∃ Y, Y0.alloc (.cells #[.slice none 0 0, .slice none 0 0, .slice none 0 0, .slice none 0 0] 27) = Y := ⟨_, rfl⟩
      rw [hY] at K13 hHeld ⊢
      rw [hO] at K13 ⊢
      clear hY hO
      refine wpAnyH_ready (rs := [2]) (by kernel_rfl) (by simp) ?_
      refine AllReadyH.cons rfl (fun K hK => ?_) ?_
      case refine_1 =>
        go_simp
        go_at_call 10
        refine (clone_rules nr rs _ _ (HVr.out.keep K13.out.below) HR1.out HRn.out (by omega)).mono ?_
        rintro e X1 ⟨vv, rfl, hk⟩
        obtain ⟨ra2, rc2, rfl⟩ : ∃ a c, vv = .slice a nr c := own_slice (hk.row 0 rfl)
        have K14 := Lib.hid (K13.out.adopt hk)
        clear hk
        (try go_wp2_with fail)
        clear hHeld
        refine hK.out _ _ ?_ (fun hHeld => ?_)
        · exact row4 (K14.out.at 2 rfl)
        clear hK K
        (try simp only [Act.put, List.setIfInBounds_toArray, List.set_cons_zero, List.set_cons_succ])
        refine wpAnyH_ready (rs := [5]) (by kernel_rfl) (by simp) ?_
        refine AllReadyH.cons rfl (fun K hK => ?_) ?_
        case refine_1 =>
          go_simp
          go_at_call 12
          refine (clone_linksF nl (Ls.flatMap kcells) _ _ (HVl.out.keep K14.out.below) HL1.out HLn.out (by omega)).mono ?_
          rintro e X2 ⟨vv, rfl, hk⟩
          obtain ⟨la2, lc2, rfl⟩ : ∃ a c, vv = .slice a nl c := own_slice (hk.row 0 rfl)
          have K15 := Lib.hid (K14.out.adopt hk)
          clear hk
          (try go_wp2_with fail)
          clear hHeld
          refine hK.out _ _ ?_ (fun hHeld => ?_)
          · exact row4 (K15.out.at 2 rfl)
          clear hK K
          (try simp only [Act.put, List.setIfInBounds_toArray, List.set_cons_zero, List.set_cons_succ])
          refine wpAnyH_ready (rs := [8]) (by kernel_rfl) (by simp) ?_
          refine AllReadyH.cons rfl (fun K hK => ?_) ?_
          case refine_1 =>
            go_simp
            go_at_call 13
            refine (clone_strs ns ss _ _ (HVs.out.keep K15.out.below) HS1.out HSn.out (by omega)).mono ?_
            rintro e X3 ⟨vv, rfl, hk⟩
            obtain ⟨sa2, sc2, rfl⟩ : ∃ a c, vv = .slice a ns c := own_slice (hk.row 0 rfl)
            have K16 := Lib.hid (K15.out.adopt hk)
            clear hk
            (try go_wp2_with fail)
            clear hHeld
            refine hK.out _ _ ?_ (fun hHeld => ?_)
            · exact row4 (K16.out.at 2 rfl)
            clear hK K
            (try simp only [Act.put, List.setIfInBounds_toArray, List.set_cons_zero, List.set_cons_succ])
            refine wpAnyH_take (i := 9) (v := .agg #[.slice ra2 nr rc2, .slice none 0 0, .slice la2 nl lc2, .slice sa2 ns sc2]) rfl (by kernel_rfl) (by kernel_rfl) (by kernel_rfl) (fun _ _ _ h => h) (Or.inl ⟨by rfl, ?_⟩) (by assumption) ?_
            · intro w hSw
              go_simp
            (try simp only [Act.put, List.setIfInBounds_toArray])
            refine wpAnyH_ready (rs := [11]) (by kernel_rfl) (by simp) ?_
            refine AllReadyH.cons rfl (fun K hK => ?_) ?_
            case refine_1 =>
              obtain ⟨s0, s1, s2, s3⟩ := row4 (K16.out.at 0 rfl)
              have f0 := free_at (K16.out.at 0 rfl) 0
              have f1 := free_at (K16.out.at 0 rfl) 1
              have f2 := free_at (K16.out.at 0 rfl) 2
              have f3 := free_at (K16.out.at 0 rfl) 3
              have K17 := Lib.hid ((((K16.out.set 0 rfl 0 (.slice ra2 nr rc2) rfl).set 0 rfl 1 (.slice none 0 0) rfl).set 0 rfl 2 (.slice la2 nl lc2) rfl).set 0 rfl 3 (.slice sa2 ns sc2) rfl)
              go_simp
              clear s0 s1 s2 s3 f0 f1 f2 f3
              clear hHeld
              refine hK.out _ _ ?_ (fun hHeld => ?_)
              · exact row4 (K17.out.at 2 rfl)
              clear hK K
              (try simp only [Act.put, List.setIfInBounds_toArray, List.set_cons_zero, List.set_cons_succ])
              refine wpAnyH_done (by kernel_rfl) ?_ _
              refine NoPanic.normal ?_
              (try go_wp2_with fail)
              go_meet
              exact ⟨O, _, _, _, _, _, _, rfl, K17.out⟩
            exact AllReadyH.nil
          exact AllReadyH.nil
        exact AllReadyH.nil
      exact AllReadyH.nil
    exact AllReadyH.nil
  case rest =>
    obtain ⟨O, ra2, la2, sa2, rc2, lc2, sc2, rfl, hk⟩ := hcut
    have K1 := Lib.hid (hk.fresh 40 2)
    clear hk KD K0
    obtain ⟨x0, x1, x2, x3⟩ := row4 (K1.out.at 2 rfl)
    go_wp2_with fail
    clear x0 x1 x2 x3
    go_loopw [5, 19] (fun _ v19 wr => ∃ (i : Nat) (zv : Value) (E : List (Zq × Zo)), i ≤ nz ∧ v19 = .int .i64 (i : Int) ∧ E.map Prod.fst = Z.take i ∧ (∀ p ∈ E, p.2.1 = p.1.nm) ∧ Kp [(O, .cells #[.slice ra2 nr rc2, zv, .slice la2 nl lc2, .slice sa2 ns sc2] 27 (0, 0)), (W.heap.size + 1, .cells #[.slice none 0 0, .slice none 0 0, .slice none 0 0, .slice none 0 0] 27 (0, 0)), (W.heap.size, .cells #[.slice ra nr rc, .slice za nz zc, .slice la nl lc, .slice sa ns sc] 27 (0, 0))] (⟨zv, 40, 2, i, (E.map Prod.snd).flatMap zcells⟩ :: ⟨.slice sa2 ns sc2, 9, 1, ns, ss⟩ :: ⟨.slice la2 nl lc2, 43, 2, nl, Ls.flatMap kcells⟩ :: ⟨.slice ra2 nr rc2, 36, 11, nr, rs⟩ :: E.reverse.map eraR) W wr) (fun _ v19 _ => nz - (intOf v19).toNat)
    case atStart => exact ⟨0, _, [], by omega, rfl, by simp, (fun p hp => by cases hp), K1.out⟩
    case round =>
      obtain ⟨i, zv, E, hi', rfl, hE, hEn, hk⟩ := hrel
      obtain ⟨a3, c3, rfl⟩ : ∃ a c, zv = .slice a i c := own_slice (hk.row 0 rfl)
      have HK := Lib.hid hk
      have HE := Lib.hid hE
      have HEn := Lib.hid hEn
      clear hk hE hEn K1
      by_cases hlt : i < nz
      · obtain ⟨b, o, c1, e1, _, _, hb, hcell⟩ := HA.out (by omega)
        simp only [Value.slice.injEq] at e1
        obtain ⟨rfl, _, rfl⟩ := e1
        obtain ⟨q, hqi⟩ : ∃ q, Q[i]? = some q := ⟨_, List.getElem?_eq_getElem (by rw [HNz.out]; exact hlt)⟩
        obtain ⟨zz, hzi⟩ : ∃ z, Z[i]? = some z := ⟨_, List.getElem?_eq_getElem (by rw [HZl.out]; exact hlt)⟩
        have HOk := Lib.hid (HQ.out i zz q hzi hqi)
        have c0 := (HK.out.below.cell (p := ⟨b, o + i * 2, none⟩) hb).trans (hcell (i * 2) _ (zo_at Q hqi).1)
        have c1' := (HK.out.below.cell (p := ⟨b, o + (i * 2 + 1), none⟩) hb).trans (hcell (i * 2 + 1) _ (zo_at Q hqi).2)
        rw [← Nat.add_assoc] at c1'
        obtain ⟨qn, qa, qm, qc⟩ := q
        dsimp only at c0 c1'
        obtain ⟨sq, hsq⟩ : ∃ s, bs qn = s := ⟨_, rfl⟩
        rw [hsq] at c0
        have HSq := Lib.hid hsq
        have HZt := Lib.hid (show Z.take (i + 1) = Z.take i ++ [zz] by rw [List.take_add_one, hzi]; rfl)
        have hbw : b < wr.heap.size := Nat.lt_of_lt_of_le hb HK.out.below.size
        have KE := Lib.hid (HK.out.allocAt wr.heap.size rfl (.cells #[.string sq, .slice qa qm qc] 40))
        clear hqi hzi hsq hcell
        go_upto_region 5 with fail
        obtain ⟨Y5, hY5⟩ : ∃ Y, wr.alloc (.cells #[.string sq, .slice qa qm qc] 40) = Y := ⟨_, rfl⟩
        rw [hY5] at KE ⊢
        obtain ⟨bz, hbz⟩ : ∃ b, wr.heap.size = b := ⟨_, rfl⟩
        rw [hbz] at KE ⊢
        clear hY5 hbz c0 c1'
        have KD := Lib.hid KE.out.drew
        obtain ⟨y0, y1⟩ := row2 (KD.out.at 0 rfl)
        obtain ⟨x0, x1, x2, x3⟩ := row4 (KD.out.at 1 rfl)
        obtain ⟨iz, hiz, hz0, hz1', hz2'⟩ := info_partsU infoZn
        have CE := Lib.hid (fun (Y : World) (hB : Below W.heap.size W Y) => clone_eras zz.m zz.ys (.slice qa qm qc) Y (HOk.out.sl.keep hB) HOk.out.one HOk.out.nil (by have := HOk.out.few; omega))
        go_region_law
          (first
          | (go_simp; go_at_call 52; refine (CE.out _ KD.out.below).mono ?_; rintro e X ⟨v', rfl, hkx⟩; obtain ⟨ea, ec, rfl⟩ : ∃ a c, v' = .slice a zz.m c := own_slice (hkx.row 0 rfl); have KX := Lib.hid ((KD.out.adopt hkx).swap); obtain ⟨z0, z1⟩ := row2 (KX.out.at 0 rfl); obtain ⟨w0, w1, w2, w3⟩ := row4 (KX.out.at 1 rfl); have hwx := KX.out.lt 0 rfl; have hwy := KX.out.lt 1 rfl; clear hkx)
          | (refine step_append_kp (by rfl) (.tmp 24) (.tmp 31) 23 (by rfl) (KX.out.allocAt X.heap.size rfl (.cells #[.string sq, .slice ea zz.m ec] 40)) iz (.agg #[.string ⟨#[]⟩, .slice none 0 0]) 40 Tryd.underlying23 hiz hz0 hz1' hz2' (by rfl) (by decide) (by rfl) 0 _ _ _ (by rfl) 1 1 (by rfl) (by rfl) (by simp [Value.oneCell']) (by omega) (by omega) (by omega) ?_; intro g cap w1 hk; have K2 := Lib.hid hk.drop.drop; obtain ⟨b0, b1, b2, b3⟩ := row4 (K2.out.at 0 rfl); have b4 := free_at (K2.out.at 0 rfl) 1; clear hk))
        all_goals
          have K3 := Lib.hid (K2.out.set 0 rfl 1 (.slice (some ⟨g, 0, none⟩) (i + 1) cap) rfl)
          go_wp2_with fail
          go_roundw
          case rel =>
            refine ⟨i + 1, .slice (some ⟨g, 0, none⟩) (i + 1) cap, E ++ [(zz, (qn, (ea, zz.m, ec)))], by omega, by go_num, ?_, ?_, ?_⟩
            · rw [List.map_append, HE.out, HZt.out]
              rfl
            · intro p hp
              rcases List.mem_append.1 hp with hp | hp
              · exact HEn.out p hp
              · rw [List.mem_singleton.1 hp]
                exact HOk.out.nm
            · have h := K3.out.perm (List.Perm.cons _ (List.perm_middle (l₁ := [⟨.slice sa2 ns sc2, 9, 1, ns, ss⟩, ⟨.slice la2 nl lc2, 43, 2, nl, Ls.flatMap kcells⟩, ⟨.slice ra2 nr rc2, 36, 11, nr, rs⟩]) (a := eraR (zz, (qn, (ea, zz.m, ec)))) (l₂ := E.reverse.map eraR)))
              rw [List.reverse_append, List.map_append, List.map_append, List.flatMap_append]
              rw [← HSq.out] at h
              exact h
          case measure => simp [intOf]; omega
      · obtain rfl : nz = i := by omega
        obtain ⟨y0, y1, y2, y3⟩ := row4 (HK.out.at 0 rfl)
        obtain ⟨x0, x1, x2, x3⟩ := row4 (HK.out.at 1 rfl)
        have f0 := free_at (HK.out.at 1 rfl) 0
        have f1 := free_at (HK.out.at 1 rfl) 1
        have f2 := free_at (HK.out.at 1 rfl) 2
        have f3 := free_at (HK.out.at 1 rfl) 3
        go_wp2_with fail
        have KF := Lib.hid ((((HK.out.set 1 rfl 0 (.slice ra2 nr rc2) rfl).set 1 rfl 1 (.slice a3 nz c3) rfl).set 1 rfl 2 (.slice la2 nl lc2) rfl).set 1 rfl 3 (.slice sa2 ns sc2) rfl)
        obtain ⟨r0, r1, r2, r3⟩ := row4 (KF.out.at 1 rfl)
        refine bodyPost_ret (v := .agg #[.slice ra2 nr rc2, .slice a3 nz c3, .slice la2 nl lc2, .slice sa2 ns sc2]) (by simp [results, Tryd.results29, go_sem, r0, r1, r2, r3]) rfl ⟨_, _, _, _, E, rfl, ?_, HEn.out, KF.out.pick (List.nil_sublist _)⟩
        rw [HE.out, List.take_of_length_le (by rw [HZl.out]; exact Nat.le_refl _)]
end Go.Proofs.YtnffecoohkanhaaDoor.Px
