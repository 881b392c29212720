/- The law NameBytes returns true for all numbers and bytes, and its tied card holds; no condition beyond the row itself. -/
import Derived.Test.YticmkjcaekhgpaaDoorEsL
import Derived.Deep.QuietTactic
import Derived.BigQuiet
import Derived.Deep.DeepCutAuto
import Derived.Deep.RegionWith
import Derived.IntWalk
import Derived.Maps.RangeRun
import Derived.Maps.RangeWalk
import Derived.Outline
namespace Go.Proofs.YticmkjcaekhgpaaDoor
open Go.ChangeShapes Go.WideShapes Go.ChangeAt Go.RowKit
open Go.ChangeMaps (setBlock)

theorem convert_one (d : UInt8) (W : World) (g : Nat) (h : W.cell? ⟨g, 0, none⟩ = some (.int .u8 (d.toNat : Int))) :
    (convert 25 9 (.slice (some ⟨g, 0, none⟩) 1 1)).run Tryd.prog W = .ok (.string (bytesOf [d])) W := by
  refine run_convert_bytes_back W 25 9 5 ⟨g, 0, none⟩ 1 [d] Tryd.underlying25 Tryd.underlying5 Tryd.underlying9 (fun j hj => ?_)
  have hj0 : j = 0 := by simpa using hj
  subst hj0
  simpa [Addr.add] using h
set_option maxHeartbeats 8000000 in
set_option maxRecDepth 100000 in
theorem nameBytes_walk (A : List (List UInt8)) (a : Option Addr) (ca : Nat) (hA : A.length ≤ ca) (hAm : ca ≤ maxLen) (C : List UInt8) (b : Option Addr) (cb : Nat) (hC : C.length ≤ cb) (hCm : cb ≤ maxLen)
    (d : UInt8) (l : Nat) (hl : l ≤ 255) (W : World) (ra : RowsAt W a A) (rc : BytesAt W b C) (hm : ∃ m, W.cell? ⟨0, 0, none⟩ = some (.int .i64 m)) :
    Calls Tryd.prog 4 #[.slice a A.length ca, .slice b C.length cb, .int .u8 (d.toNat : Int), .int .u8 l] W fun e w' => e = .returned (.bool true) ∧ Below W.heap.size W w' := by
  obtain ⟨z, hz⟩ : ∃ z, bytesOf (zoneL A) = z := ⟨_, rfl⟩
  have zl : z.data.toList = zoneL A := by rw [← hz]; rfl
  have zz : z.size ≤ 59 ∧ 1 ≤ z.size := by rw [← len_eq, zl]; exact ⟨(zoneL_len A).2, List.length_pos_iff.2 (zone_ne A)⟩
  obtain ⟨zz, z1⟩ := zz
  have C21 := Lib.hid (zone21_is z A a ca hA hAm hz)
  obtain ⟨k, hk⟩ : ∃ k, l % z.size = k := ⟨_, rfl⟩
  have hkz : k < z.size := by rw [← hk]; exact Nat.mod_lt _ (by omega)
  have tK : (l : Int) % (z.size : Int) = (k : Int) := by rw [← hk]; simp
  have hki : (k : Int) < (z.size : Int) := by omega
  have hzpos : (0 : Int) < (z.size : Int) := by omega
  have hdl : (d.toNat : Int) ≤ 255 := by have := d.toNat_lt; omega
  have hli : (l : Int) ≤ 255 := by omega
  obtain ⟨x1, hx1⟩ : ∃ x1, bytesOf [d] = x1 := ⟨_, rfl⟩
  have hx1z : x1.size = 1 := by rw [← hx1]; rfl
  have HX1 := Lib.hid hx1
  have hcv : ∀ w : World, (convert 25 9 (.slice (some ⟨w.heap.size, 0, none⟩) 1 1)).run Tryd.prog (w.alloc (.cells #[.int .u8 (d.toNat : Int)] 5)) = .ok (.string x1) (w.alloc (.cells #[.int .u8 (d.toNat : Int)] 5)) := by
    intro w
    rw [← hx1]
    exact convert_one d _ _ ((World.cell?_alloc_at _ _ _ _ rfl).trans rfl)
  have hcvd : ∀ w : World, (convert 25 9 (.slice (some ⟨w.heap.size, 0, none⟩) 1 1)).run Tryd.prog (w.alloc (.cells #[.int .u8 (d.toNat : Int)] 5)).drew = .ok (.string x1) (w.alloc (.cells #[.int .u8 (d.toNat : Int)] 5)).drew := by
    intro w
    rw [← hx1]
    exact convert_one d _ _ (show (w.alloc (.cells #[.int .u8 (d.toNat : Int)] 5)).cell? ⟨w.heap.size, 0, none⟩ = _ from (World.cell?_alloc_at _ _ _ _ rfl).trans rfl)
  clear hx1
  have HM := Lib.hid hm
  have RA := Lib.hid ra
  have RC := Lib.hid rc
  have HZL := Lib.hid zl
  unfold maxLen at hAm hCm
  clear hz zl hk ra rc hm
  go_enter Tryd.func4, Tryd.ntmps4
  go_wp2_with fail
  refine (C21.out _ RA.out).mono ?_
  rintro e V1 ⟨rfl, k1⟩
  have B1 := Lib.hid k1
  have RC1 := Lib.hid (RC.out.keep k1)
  clear k1
  go_upto_region 3 with fail
  go_cut [10, 11] (fun s10 s w => s10 = .int .i64 k ∧ s = .bool (letB d.toNat) ∧ w = V1)
  case first =>
    go_wp2_with fail
    all_goals (go_meet; refine ⟨rfl, congrArg Value.bool ?_, rfl⟩; unfold letB; rw [Bool.eq_iff_iff]; simp; omega)
  case rest =>
    obtain ⟨rfl, rfl, rfl⟩ := hcut
    clear tK
    obtain ⟨lb, hlb⟩ : ∃ lb, letB d.toNat = lb := ⟨_, rfl⟩
    have HLB := Lib.hid hlb
    rw [hlb]
    clear hlb
    go_upto_region 4 with fail
    go_cut [12] (fun s w => s = .bool (digB d.toNat) ∧ w = wc)
    case first =>
      go_wp2_with fail
      all_goals (go_meet; refine ⟨congrArg Value.bool ?_, rfl⟩; unfold digB; rw [Bool.eq_iff_iff]; simp; omega)
    case rest =>
      obtain ⟨rfl, rfl⟩ := hcut
      obtain ⟨db, hdb⟩ : ∃ db, digB d.toNat = db := ⟨_, rfl⟩
      have HDB := Lib.hid hdb
      rw [hdb]
      clear hdb
      go_upto_region 5 with fail
      go_cut [13] (fun s w => s = .bool (beginsB z k) ∧ w = wc)
      case first =>
        by_cases hk0 : k = 0
        · have t0 : ((k : Int) == 0) = true := by rw [beq_iff_eq]; omega
          have HK := Lib.hid hk0
          clear hk0
          go_wp2_with fail
          go_meet
          exact ⟨congrArg Value.bool (by unfold beginsB; rw [decide_eq_true HK.out]; rfl), rfl⟩
        · have t0 : ((k : Int) == 0) = false := by rw [beq_eq_false_iff_ne]; omega
          obtain ⟨j, hj⟩ : ∃ j : Nat, k - 1 = j := ⟨_, rfl⟩
          have tj : (k : Int) - 1 = (j : Int) := by omega
          have hjz : j < z.size := by omega
          have hji : (j : Int) < (z.size : Int) := by omega
          have HJ := Lib.hid hj
          have HK := Lib.hid hk0
          clear hk0 hj
          go_wp2_with fail
          go_meet
          refine ⟨congrArg Value.bool ?_, rfl⟩
          unfold beginsB
          rw [decide_eq_false HK.out, HJ.out, Bool.false_or, getD_lt (by rw [len_eq]; exact hjz), Bool.eq_iff_iff, beq_iff_eq, decide_eq_true_iff]
          show ((z[j].toNat : Int) = 47) ↔ z[j].toNat = 47
          omega
      case rest =>
        obtain ⟨rfl, rfl⟩ := hcut
        obtain ⟨bg, hbg⟩ : ∃ bg, beginsB z k = bg := ⟨_, rfl⟩
        have HBG := Lib.hid hbg
        rw [hbg]
        clear hbg
        obtain ⟨b95, h95⟩ : ∃ b, decide (d.toNat = 95) = b := ⟨_, rfl⟩
        obtain ⟨b43, h43⟩ : ∃ b, decide (d.toNat = 43) = b := ⟨_, rfl⟩
        obtain ⟨b46, h46⟩ : ∃ b, decide (d.toNat = 46) = b := ⟨_, rfl⟩
        obtain ⟨b45, h45⟩ : ∃ b, decide (d.toNat = 45) = b := ⟨_, rfl⟩
        have HW := Lib.hid (show wantB d.toNat bg = (lb || db || b95 || b43 || ((b46 || b45) && !bg)) by unfold wantB; rw [HLB.out, HDB.out, h95, h43, h46, h45])
        have t95 : ((d.toNat : Int) == 95) = b95 := by rw [← h95, Bool.eq_iff_iff, beq_iff_eq, decide_eq_true_iff]; omega
        have t43 : ((d.toNat : Int) == 43) = b43 := by rw [← h43, Bool.eq_iff_iff, beq_iff_eq, decide_eq_true_iff]; omega
        have t46 : ((d.toNat : Int) == 46) = b46 := by rw [← h46, Bool.eq_iff_iff, beq_iff_eq, decide_eq_true_iff]; omega
        have t45 : ((d.toNat : Int) == 45) = b45 := by rw [← h45, Bool.eq_iff_iff, beq_iff_eq, decide_eq_true_iff]; omega
        have H95 := Lib.hid h95
        have H45 := Lib.hid h45
        clear h95 h43 h46 h45
        go_upto_region 6 with fail
        go_cut [14] (fun s w => s = .bool (lb || db || b95 || b43 || ((b46 || b45) && !bg)) ∧ w = wc)
        case first =>
          as_aux_lemma =>
            cases lb
            · cases db
              · cases b95
                · cases b43
                  · cases b46 <;> cases b45 <;> cases bg
                    all_goals (go_wp2_with fail; go_meet; exact ⟨rfl, rfl⟩)
                  · (go_wp2_with fail; go_meet; exact ⟨rfl, rfl⟩)
                · (go_wp2_with fail; go_meet; exact ⟨rfl, rfl⟩)
              · (go_wp2_with fail; go_meet; exact ⟨rfl, rfl⟩)
            · (go_wp2_with fail; go_meet; exact ⟨rfl, rfl⟩)
        case rest =>
          obtain ⟨rfl, rfl⟩ := hcut
          obtain ⟨wt, hwt⟩ : ∃ wt, (lb || db || b95 || b43 || ((b46 || b45) && !bg)) = wt := ⟨_, rfl⟩
          rw [hwt] at HW ⊢
          clear hwt t95 t43 t46 t45
          have hk1 : (k : Int) + 1 ≤ (z.size : Int) := by omega
          have k0 : (0 : Int) ≤ (k : Int) + 1 := by omega
          have k1n : ((k : Int) + 1).toNat = k + 1 := by omega
          have k1w : IntKind.i64.wrap ((k : Int) + 1) = (k : Int) + 1 := IntWalk.i64_in _ (by omega)
          go_upto_region 8 with fail
          go_cut [15] (fun s w => s = .string (z.extract 0 k ++ x1 ++ z.extract (k + 1) z.size) ∧ Below wc.heap.size wc w)
          case first =>
            go_wp2_with fail
            go_region_with (fail)
            all_goals (go_wp2_with fail; go_meet; exact ⟨rfl, by first | exact ((Below.refl _ _).alloc (Nat.le_refl _) _) | exact ((Below.refl _ _).alloc (Nat.le_refl _) _).drew⟩)
          case rest =>
            obtain ⟨rfl, hb7⟩ := hcut
            clear k0 k1n k1w
            obtain ⟨ch, hch⟩ : ∃ ch, z.extract 0 k ++ x1 ++ z.extract (k + 1) z.size = ch := ⟨_, rfl⟩
            have hchl : ch.data.toList = z.data.toList.take k ++ d :: z.data.toList.drop (k + 1) := by rw [← hch]; exact other_list z x1 d k (by rw [← HX1.out]; rfl)
            have hchz : ch.size ≤ 59 := by
              rw [← len_eq, hchl]
              have := len_eq z
              simp; omega
            rw [hch]
            clear hch
            have zok : zoneOk z.data.toList = true := by rw [HZL.out]; exact zoneL_ok A
            have C13 : d.toNat ≠ 47 → z[k].toNat ≠ 47 → Hid (∀ w, Calls Tryd.prog 13 #[.string ch] w fun e w' => e = .returned (.bool wt) ∧ Below w.heap.size w w') := by
              intro h1 h2
              refine Lib.hid (zone_is wt ch (by unfold maxLen; omega) ?_)
              have e : z.data.toList.getD k 0 = z[k] := getD_lt (by rw [len_eq]; exact hkz)
              rw [hchl, zone_other z k hkz d zok (by intro h; exact h1 (by rw [h]; rfl)) (by rw [e]; intro h; exact h2 (by rw [h]; rfl)), HBG.out]
              exact HW.out
            have tne : (wt != wt) = false := by cases wt <;> rfl
            have BW8 := Lib.hid (B1.out.trans (hb7.mono B1.out.size))
            clear hb7 hchl zok
            go_upto_region 8 with fail
            go_cut [107] (fun s w => s = .bool false ∧ Below wc.heap.size wc w)
            case first =>
              by_cases h1 : d.toNat = 47
              · have t1 : ((d.toNat : Int) != 47) = false := by rw [bne_eq_false_iff_eq]; omega
                clear h1 C13
                go_wp2_with fail
                all_goals (go_meet; exact ⟨rfl, Below.refl _ _⟩)
              · have t1 : ((d.toNat : Int) != 47) = true := by rw [bne_iff_ne]; omega
                by_cases h2 : z[k].toNat = 47
                · have t2 : ((z[k].toNat : Int) != 47) = false := by rw [bne_eq_false_iff_eq]; omega
                  clear h1 h2 C13
                  go_wp2_with fail
                  all_goals (go_meet; exact ⟨rfl, Below.refl _ _⟩)
                · have t2 : ((z[k].toNat : Int) != 47) = true := by rw [bne_iff_ne]; omega
                  have C13' := C13 h1 h2
                  clear h1 h2 C13
                  go_wp2_with fail
                  refine (C13'.out _).mono ?_
                  rintro e V8 ⟨rfl, k8⟩
                  go_wp2_with fail
                  all_goals (go_meet; exact ⟨by first | rfl | rw [tne], k8⟩)
            case rest =>
              obtain ⟨rfl, hb8⟩ := hcut
              have BW9 := Lib.hid (BW8.out.trans (hb8.mono BW8.out.size))
              clear hb8 C13 tne
              obtain ⟨wo, rfl⟩ : ∃ wo : World, wo = wc := ⟨_, rfl⟩
              have hmm := @run_makeMap Tryd.prog
              have g1 := upd1
              have g2 := upd2
              have g3 := upd3
              have g4 := rng3
              go_wp2_with fail
              clear hmm g1 g2 g3 g4
              try go_frame
              go_loopw [16] (fun _ wr => ∃ seen, wr.heap[wo.heap.size]? = some (.map es3 3) ∧ wr.heap[wo.heap.size + 1]? = some (.mapIter (some wo.heap.size) 3 seen 3) ∧ Below wo.heap.size wo wr) (fun _ wr => leftEs (wo.heap.size + 1) es3 wr)
              case atStart => exact ⟨#[], by rw [Below.heap_alloc _ _ _ (by simp), heap_alloc_at rfl], by rw [heap_alloc_at (by simp)], ((Below.refl _ _).alloc (Nat.le_refl _) _).alloc (by simp) _⟩
              case round =>
                obtain ⟨seen, hm, hi, hB⟩ := hrel
                have HMM := Lib.hid hm
                have HI := Lib.hid hi
                have HB := Lib.hid hB
                clear hm hi hB
                go_wp2_with (first | (at_next; refine wpList_next_es _ rfl _ rfl wo.heap.size (wo.heap.size + 1) 3 3 3 es3 seen rfl HI.out HMM.out es3_old (Nat.le_refl _) ?_ ?_) | go_in)
                · intro _
                  go_wp2_with fail
                  refine (works_any _).mono ?_
                  rintro e Vw ⟨rfl, kw⟩
                  go_wp2
                  go_ret
                  exact ⟨rfl, BW9.out.trans ((HB.out.trans (kw.mono HB.out.size)).mono BW9.out.size)⟩
                · intro e w1 hcame
                  obtain ⟨he, hal⟩ := hcame
                  obtain ⟨n, f, hke, hro⟩ := row_ok C d (mem_leftOf he)
                  obtain ⟨hve, h3n, hn30, p, hT, hps, hpo⟩ := hro
                  have hw1 := drew_or hal
                  obtain ⟨w2, hw2⟩ : ∃ w2, setBlock w1 (wo.heap.size + 1) (.mapIter (some wo.heap.size) 3 (seen.push e.born) 3) = w2 := ⟨_, rfl⟩
                  have HM2 := Lib.hid (show w2.heap[wo.heap.size]? = some (.map es3 3) by rw [← hw2, setBlock_other (by omega), hw1]; exact HMM.out)
                  have HI2 := Lib.hid (show w2.heap[wo.heap.size + 1]? = some (.mapIter (some wo.heap.size) 3 (seen.push e.born) 3) by rw [← hw2]; exact setBlock_at (by rw [hw1]; exact HI.out) _)
                  have HB2 := Lib.hid (show Below wo.heap.size wo w2 by rw [← hw2]; exact setBlock_below (drew_below HB.out hal) (by omega) _)
                  have hent := run_entry_at (P := Tryd.prog) w2 (wo.heap.size + 1) wo.heap.size 3 seen es3 3 e HI2.out HM2.out (mem_leftOf he) es3_nodup
                  have HLS := Lib.hid (left_less he)
                  have hsz2 : wo.heap.size + 1 < w2.heap.size := (Array.getElem?_eq_some_iff.1 HI2.out).1
                  have HC2 := Lib.hid (RC.out.keep (BW9.out.trans (HB2.out.mono BW9.out.size)))
                  obtain ⟨y, hy⟩ : ∃ y, bytesOf (lettersOf C 3 n) = y := ⟨_, rfl⟩
                  have hyl : y.data.toList = lettersOf C 3 n := by rw [← hy]; rfl
                  have hyz : y.size = (lettersOf C 3 n).length := by rw [← len_eq, hyl]
                  obtain ⟨hy3, hyn⟩ := lett3 C n h3n
                  rw [← hyz] at hy3 hyn
                  have CL := Lib.hid (letters_w C b cb n hn30 (Nat.le_trans hC hCm) y hy w2 HC2.out)
                  have hef := hT.1
                  have CF1 := Lib.hid (fun w => tells_at (b := true) hT y w (by unfold maxLen; omega) (by rw [hyl]; exact hps))
                  obtain ⟨j, hj⟩ : ∃ j, l % y.size = j := ⟨_, rfl⟩
                  have hjy : j < y.size := by rw [← hj]; exact Nat.mod_lt _ (by omega)
                  have tJ : (l : Int) % (y.size : Int) = (j : Int) := by rw [← hj]; simp
                  obtain ⟨oth, hoth⟩ : ∃ oth, y.extract 0 j ++ x1 ++ y.extract (j + 1) y.size = oth := ⟨_, rfl⟩
                  have hothl : oth.data.toList = y.data.toList.take j ++ d :: y.data.toList.drop (j + 1) := by rw [← hoth]; exact other_list y x1 d j (by rw [← HX1.out]; rfl)
                  have hothz : oth.size ≤ 30 := by
                    rw [← len_eq, hothl]
                    have := len_eq y
                    simp; omega
                  obtain ⟨ff, hff⟩ : ∃ ff, fineB d.toNat (decide (n = 30)) (decide (0 < j)) = ff := ⟨_, rfl⟩
                  have CF2 := Lib.hid (fun w => tells_at (b := ff) hT oth w (by unfold maxLen; omega) (by rw [hothl, hyl, hpo j (by omega), hff]))
                  have HOTH := Lib.hid hoth
                  have HFF := Lib.hid hff
                  have hki3 : (j : Int) < (y.size : Int) := by omega
                  have hy3i : (3 : Int) ≤ (y.size : Int) := by omega
                  rw [hw2, hke, hve]
                  rw [hke, hve] at hent
                  clear hw1 hw2 hke hve hal hps hpo hT hy hyl hyz hj hoth hothl hff
                  go_wp2_with fail
                  refine CL.out.mono ?_
                  rintro e3 V3 ⟨rfl, rfl⟩
                  clear CL
                  go_wp2_with fail
                  have j1 : (j : Int) + 1 ≤ (y.size : Int) := by omega
                  have j0 : (0 : Int) ≤ (j : Int) + 1 := by omega
                  have j1n : ((j : Int) + 1).toNat = j + 1 := by omega
                  have j1w : IntKind.i64.wrap ((j : Int) + 1) = (j : Int) + 1 := IntWalk.i64_in _ (by omega)
                  go_cut [19, 20] (fun i s w => i = .int .i64 (j : Int) ∧ s = .string (y.extract 0 j ++ x1 ++ y.extract (j + 1) y.size) ∧ Below w2.heap.size w2 w)
                  case first =>
                    go_wp2_with fail
                    go_region_with (fail)
                    all_goals (go_wp2_with fail; go_meet; exact ⟨rfl, rfl, by first | exact ((Below.refl _ _).alloc (Nat.le_refl _) _) | exact ((Below.refl _ _).alloc (Nat.le_refl _) _).drew⟩)
                  case rest =>
                    obtain ⟨rfl, rfl, hb15⟩ := hcut
                    clear j1 j0 j1n j1w
                    rw [HOTH.out]
                    have HB3 := Lib.hid (HB2.out.trans (hb15.mono HB2.out.size))
                    have HM3 := Lib.hid ((hb15.block _ (by omega)).trans HM2.out)
                    have HI3 := Lib.hid ((hb15.block _ (by omega)).trans HI2.out)
                    clear hb15
                    go_upto_region 16 with fail
                    obtain ⟨b30, h30⟩ : ∃ b, decide (n = 30) = b := ⟨_, rfl⟩
                    obtain ⟨bj, hbj⟩ : ∃ b, decide (0 < j) = b := ⟨_, rfl⟩
                    have HF16 := Lib.hid (show ff = (lb || (b30 && bj && (db || b95 || b45))) by rw [← HFF.out, h30, hbj]; unfold fineB; rw [HLB.out, HDB.out, H95.out, H45.out])
                    have t30 : ((n : Int) == 30) = b30 := by rw [← h30, Bool.eq_iff_iff, beq_iff_eq, decide_eq_true_iff]; omega
                    have tj0 : decide ((0 : Int) < (j : Int)) = bj := by rw [← hbj, Bool.eq_iff_iff, decide_eq_true_iff, decide_eq_true_iff]; omega
                    have t95 : ((d.toNat : Int) == 95) = b95 := by rw [← H95.out, Bool.eq_iff_iff, beq_iff_eq, decide_eq_true_iff]; omega
                    have t45 : ((d.toNat : Int) == 45) = b45 := by rw [← H45.out, Bool.eq_iff_iff, beq_iff_eq, decide_eq_true_iff]; omega
                    clear h30
                    go_cut [21] (fun s w => s = .bool (lb || (b30 && bj && (db || b95 || b45))) ∧ w = wc)
                    case first =>
                      as_aux_lemma =>
                        cases lb
                        · cases b30
                          · (go_wp2_with fail; go_meet; exact ⟨rfl, rfl⟩)
                          · cases bj
                            · (go_wp2_with fail; go_meet; exact ⟨rfl, rfl⟩)
                            · cases db <;> cases b95 <;> cases b45
                              all_goals (go_wp2_with fail; go_meet; exact ⟨rfl, rfl⟩)
                        · (go_wp2_with fail; go_meet; exact ⟨rfl, rfl⟩)
                    case rest =>
                      obtain ⟨rfl, rfl⟩ := hcut
                      rw [← HF16.out]
                      clear HF16 t30 tj0 hbj t95 t45
                      go_wp2_with fail
                      refine (CF1.out _).mono ?_
                      rintro e V4 ⟨rfl, k4⟩
                      have K4 := Lib.hid k4
                      clear k4
                      go_wp2_with fail
                      refine (CF2.out _).mono ?_
                      rintro e V5 ⟨rfl, k5⟩
                      have K5 := Lib.hid (K4.out.trans (k5.mono K4.out.size))
                      clear k5
                      have tff : (ff != ff) = false := by cases ff <;> rfl
                      go_wp2_with fail
                      go_roundw
                      case rel => exact ⟨seen.push e.born, (K5.out.block _ (Array.getElem?_eq_some_iff.1 HM3.out).1).trans HM3.out, (K5.out.block _ (Array.getElem?_eq_some_iff.1 HI3.out).1).trans HI3.out, HB3.out.trans (K5.out.mono HB3.out.size)⟩
                      case measure => rw [leftEs_at ((K5.out.block _ (Array.getElem?_eq_some_iff.1 HI3.out).1).trans HI3.out), leftEs_at HI.out]; exact HLS.out
theorem nameBytes_int (A : List (List UInt8)) (a : Option Addr) (ca : Nat) (hA : A.length ≤ ca) (hAm : ca ≤ maxLen) (C : List UInt8) (b : Option Addr) (cb : Nat) (hC : C.length ≤ cb) (hCm : cb ≤ maxLen)
    (d : Int) (hd : (Lit.int .u8 d).wf = true) (l : Nat) (hl : l ≤ 255) (W : World) (ra : RowsAt W a A) (rc : BytesAt W b C) (hm : ∃ m, W.cell? ⟨0, 0, none⟩ = some (.int .i64 m)) :
    Calls Tryd.prog 4 #[.slice a A.length ca, .slice b C.length cb, .int .u8 d, .int .u8 l] W fun e w' => e = .returned (.bool true) ∧ Below W.heap.size W w' := by
  have h := nameBytes_walk A a ca hA hAm C b cb hC hCm (byteOf d) l hl W ra rc hm
  rwa [byteOf_wf hd] at h
namespace nameBytes
theorem own : ownKnob Tryd.prog.godebug = none := by kernel_rfl
set_option maxRecDepth 100000 in
theorem lifted (os : Os) (started : os.Started) (H : Type) (enc : TypeId × Value → H) :
    ReturnsInHanded {} Tryd.checked os 4 .any (fun w args => (Rows.nameBytesSpec.pre enc Tryd.prog Tryd.f4 Rows.nameBytesRow.domain false w args ∧ laidMetH Tryd.prog Rows.nameBytesRow.laid w) ∧ sizedMet enc Tryd.prog Tryd.f4 (OpenSpec.ofChange Rows.nameBytesSpec) false w args)
      (Rows.nameBytesSpec.post enc Tryd.prog Tryd.f4 false true false false) := by
  refine handed_shaped (X := fun w _ => laidMetH Tryd.prog Rows.nameBytesRow.laid w) own started (by kernel_rfl) Tryd.func4
    (ChangeSpec.witness_shaped (enc := enc) (C := Tryd.checked) (os := os) (X := fun w _ => laidMetH Tryd.prog Rows.nameBytesRow.laid w) false (World.laidAll Tryd.prog os Rows.nameBytesRow.laid) #[.slice none 0 0, .slice none 0 0, .int .u8 0, .int .u8 0] 8 (World.laidAll_os _ _ _)
      (World.shaped_of_ZipB (by kernel_rfl) (by kernel_rfl)) (by kernel_rfl) (by kernel_rfl) (by kernel_rfl)
      (by rw [MakeChecks.laidMetH_plain _ _ _ (by kernel_rfl)]; exact laidMet_laidAll _ (by kernel_rfl) (by kernel_rfl))) ?_
  intro W base args ds gs before hval0 hW hsh
  have hval : ∀ (j : Nat) t v, Tryd.f4.params[j]? = some t → args[j]? = some v → Value.okWide Tryd.prog W .any base t v := hval0
  have hW' := hW
  obtain ⟨p, q, hA0, hV, rfl, _, _⟩ := hW
  have hA : DataW.TrodAll enc Tryd.prog W 0 (fun _ => true) true Tryd.f4.params.toList args.toList ds p := hA0
  rw [Tryd.params4] at hA hval
  obtain ⟨v0, vs0, d0, ds0, p0, q0, hargs, rfl, rfl, h0, r0⟩ := trodAll_cons hA
  obtain ⟨v1, vs1, d1, ds1, p1, q1, rfl, rfl, rfl, h1, r1⟩ := trodAll_cons r0
  obtain ⟨v2, vs2, d2, ds2, p2, q2, rfl, rfl, rfl, h2, r2⟩ := trodAll_cons r1
  obtain ⟨v3, vs3, d3, ds3, p3, q3, rfl, rfl, rfl, h3, r3⟩ := trodAll_cons r2
  obtain ⟨rfl, rfl, rfl⟩ := trodAll_nil r3
  obtain rfl : args = #[v0, v1, v2, v3] := by cases args; simp_all
  obtain ⟨rfl, rfl⟩ := trodVars_none hV
  obtain ⟨a0, c0, R0, rfl, hc0, hx0, hb0⟩ := open_rows (hval 0 24 v0 rfl rfl) h0
  obtain ⟨a1, c1, L1, rfl, hm1, hc1, hx1, hb1⟩ := open_bytes (hval 1 25 v1 rfl rfl) h1
  obtain ⟨n2, rfl, rfl, rfl, hn2⟩ := open_int Tryd.underlying5 (hval 2 5 v2 rfl rfl) h2
  obtain ⟨n3, rfl, rfl, rfl, hn3⟩ := open_int Tryd.underlying5 (hval 3 5 v3 rfl rfl) h3
  obtain ⟨k3, rfl⟩ := Int.eq_ofNat_of_zero_le (show 0 ≤ n3 from (bounds_u8 hn3).1)
  refine (nameBytes_int R0 a0 c0 hc0 hx0 L1 a1 c1 hc1 hx1 n2 hn2 k3 (by have := (bounds_u8 hn3).2; omega) W hb0 hb1 (maxLen_cell hsh)).mono fun e W' ⟨he, hB⟩ => ?_
  subst he
  refine ⟨_, rfl, post_law (by kernel_rfl) ?_ rfl hW' rfl rfl Tryd.underlying4 hB⟩
  rw [Tryd.params4]
  intro t ht
  have hall : ([24, 25, 5, 5].all fun u => Tryd.prog.readableRec u && decide (u < Tryd.prog.types.size)) = true := by kernel_rfl
  have h1 := List.all_eq_true.1 hall t ht
  have h2 : Tryd.prog.readableRec t = true ∧ t < Tryd.prog.types.size := by simpa using h1
  exact h2

theorem said : Rows.NameBytesSaid :=
  OpenClaim.holds_of_wide 4 Tryd.f4 rfl rfl rfl rfl rfl rfl rfl ⟨rfl, rfl, rfl, rfl, rfl⟩ rfl rfl rfl rfl rfl (by kernel_rfl) Tryd.func4 (by kernel_rfl)
    (of_decide_eq_true (by kernel_rfl)) (by unfold Func.isWrapper; first | (rw [if_pos (by decide +kernel)]; kernel_rfl) | (rw [if_neg (by decide +kernel)]; exact ⟨rfl, rfl⟩))
    (fun os started H enc _ => lifted os started H enc)
theorem plain (f : FuncId) (fn : Func) (hf : Tryd.pinned.checked.prog.funcNamed "analemma/analemmalaw07.NameBytes" = some f) (hfn : Tryd.pinned.checked.prog.funcs[f]? = some fn) :
    false = Tryd.pinned.checked.prog.looks [] ∧ ∀ (j : Nat) t, fn.params[j]? = some t → Tryd.pinned.checked.prog.wantsStandIn t = false := by
  obtain rfl : f = 4 := Option.some.inj ((show Tryd.prog.funcNamed "analemma/analemmalaw07.NameBytes" = some 4 by kernel_rfl).symm.trans hf) |>.symm
  obtain rfl : fn = Tryd.f4 := (Option.some.inj (Tryd.func4.symm.trans hfn)).symm
  refine ⟨by kernel_rfl, fun j t ht => ?_⟩
  rw [Tryd.params4] at ht
  have hm : t ∈ [24, 25, 5, 5] := by simpa using Array.mem_of_getElem? ht
  have hall : ([24, 25, 5, 5].all fun u => !Tryd.prog.wantsStandIn u) = true := by kernel_rfl
  exact (show Tryd.prog.wantsStandIn t = false by simpa using List.all_eq_true.1 hall t hm)
theorem card : Rows.NameBytesCardSaid :=
  Claim7.holds_tied_plain_at .later [] _ _ _ _ said (fun _ h => by cases h) (by kernel_rfl) (fun _ h => by cases h) nameBytes_row_tie rfl ⟨rfl, rfl⟩ (by kernel_rfl) rfl plain (by kernel_rfl)
end nameBytes
#print axioms nameBytes.card
end Go.Proofs.YticmkjcaekhgpaaDoor
