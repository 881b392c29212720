/- The law PosixBegins returns true for every TZ by numbers and every year: the walks. -/
import Derived.Test.YtgllbagmmpicaaaGreatDoorPmX
import Derived.Test.YtgllbagmmpicaaaGreatDoorPmKj
import Derived.Test.YtgllbagmmpicaaaGreatDoorPwX
import Derived.Test.YtgllbagmmpicaaaGreatDoorPxW
import Derived.Outline
namespace Go.Proofs.YtgllbagmmpicaaaGreatDoor.Px
open Go.RowKit
open Civ

theorem Kp.swapL {p q : Nat × Obj} {L : List (Nat × Obj)} {R : List Rw} {w X : World} (h : Kp (p :: q :: L) R w X) : Kp (q :: p :: L) R w X :=
  ⟨⟨h.below, fun k b o hk => by
      match k, hk with
      | 0, hk => exact h.at 1 hk
      | 1, hk => exact h.at 0 hk
      | k + 2, hk => exact h.at (k + 2) hk,
    fun r hr => h.known.own r ((List.Perm.swap p q L).subset hr), ((List.Perm.swap p q L).pairwise_iff (fun {_ _} hab => hab.symm)).2 h.known.desc⟩,
   h.own, fun r hr g hg x hx => h.offL r hr g hg x ((List.Perm.swap p q L).subset hx), h.offR⟩
theorem row7' {X : World} {b : Nat} {T : TypeId} {x0 x1 x2 x3 x4 x5 x6 : Value} (h : X.heap[b]? = some (.cells #[x0, x1, x2, x3, x4, x5, x6] T (0, 0))) : X.cell? ⟨b, 0, none⟩ = some x0 ∧ X.cell? ⟨b, 1, none⟩ = some x1 ∧ X.cell? ⟨b, 2, none⟩ = some x2 ∧ X.cell? ⟨b, 3, none⟩ = some x3 ∧ X.cell? ⟨b, 4, none⟩ = some x4 ∧ X.cell? ⟨b, 5, none⟩ = some x5 ∧ X.cell? ⟨b, 6, none⟩ = some x6 := ⟨cells_at h 0, cells_at h 1, cells_at h 2, cells_at h 3, cells_at h 4, cells_at h 5, cells_at h 6⟩
theorem info64 : (Tryz.prog.info? 2).map (fun i => (i.zero, i.size, i.bytes)) = some (some (.int .i64 0), 1, 8) := by kernel_rfl
theorem loc_of (a c : ByteArray) (b o : Int) (q : Bool) : (Value.agg (locOf a c b o q), (0 : Int)) = if q = true then (Loc o true c, 0) else (Loc b false a, 0) := by cases q <;> rfl
/-- what the first loop keeps -/
def Bg (BI EI : Int → Int) (y : Int) (PL : List (Nat × Obj)) (W : World) (n : Nat) (v10 v11 : Value) (X : World) : Prop :=
  Kp PL [⟨v10, 2, 1, n, ((List.range n).map (fun (k : Nat) => BI (y - 4 + (k : Int)))).map (Value.int .i64)⟩, ⟨v11, 2, 1, n, ((List.range n).map (fun (k : Nat) => EI (y - 4 + (k : Int)))).map (Value.int .i64)⟩] W X
theorem bg_list (p : Pos) (y : Int) : ∀ n : Nat, begL p y n = (List.range n).map (fun (k : Nat) => begI p (y + (k : Int)))
  | 0 => rfl
  | n + 1 => by rw [List.range_succ, List.map_append, ← bg_list p y n]; rfl
theorem en_list (p : Pos) (y : Int) : ∀ n : Nat, endL p y n = (List.range n).map (fun (k : Nat) => endI p (y + (k : Int)))
  | 0 => rfl
  | n + 1 => by rw [List.range_succ, List.map_append, ← en_list p y n]; rfl
theorem range_snoc (f : Int → Int) (y : Int) (n : Nat) {x : Int} (h : x = f (y - 4 + (n : Int))) : ((List.range (n + 1)).map (fun (k : Nat) => f (y - 4 + (k : Int)))).map (Value.int .i64) = ((List.range n).map (fun (k : Nat) => f (y - 4 + (k : Int)))).map (Value.int .i64) ++ [.int .i64 x] := by
  subst h
  rw [List.range_succ, List.map_append, List.map_append]
  rfl
set_option maxHeartbeats 16000000 in
set_option maxRecDepth 100000 in
theorem posixBegins_cells (n0 n1 o0 o1 k0 k1 d0 d1 s0 s1 : Int) (q : Bool) (hd : Drf.In ⟨n0, n1, o0, o1, k0, k1, d0, d1, s0, s1, q⟩) (yr : Int) (y0 : -2147483648 ≤ yr) (y1 : yr ≤ 2147483647) (W : World) (hE : EnvAt W) :
    Calls Tryz.prog 6 #[.agg #[.int .u8 n0, .int .u8 n1, .int .u8 o0, .int .u8 o1, .int .u8 k0, .int .u8 k1, .int .u8 d0, .int .u8 d1, .int .u8 s0, .int .u8 s1, .bool q], .int .i32 yr] W fun e w' => e = .returned (.bool true) ∧ Below W.heap.size W w' := by
  have hd0 : Drf.In ⟨n0, n1, o0, o1, k0, k1, d0, d1, s0, s1, false⟩ := ⟨hd.n0, hd.n1, hd.o0, hd.o1, hd.k0, hd.k1, hd.d0, hd.d1, hd.s0, hd.s1⟩
  have CM := Lib.hid (fun w => made_cells n0 n1 o0 o1 k0 k1 d0 d1 s0 s1  false hd0 w)
  have hok := made_ok _ hd0
  have hsz := made_size ⟨n0, n1, o0, o1, k0, k1, d0, d1, s0, s1, false⟩
  have hne := made_ne (d := ⟨n0, n1, o0, o1, k0, k1, d0, d1, s0, s1, false⟩) rfl
  obtain ⟨i0, hi, hz0, hz1, hz2⟩ := info_parts info64
  obtain ⟨P, hP⟩ : ∃ P, Drf.made ⟨n0, n1, o0, o1, k0, k1, d0, d1, s0, s1, false⟩ = P := ⟨_, rfl⟩
  rw [hP] at CM hok hsz hne
  clear hP hd hd0
  obtain ⟨q1, q2, q3, q4⟩ := ok_parts hok hne
  obtain ⟨_, Y, _, hY, Y0, Y1, _⟩ := quo_parts yr 1000000 (by decide)
  obtain ⟨B, hB⟩ : ∃ B, begI P Y = B := ⟨_, rfl⟩
  obtain ⟨E, hE2⟩ : ∃ B, endI P Y = B := ⟨_, rfl⟩
  have bb := beg_bd q1 q3 Y
  have eb := end_bd q2 q4 Y
  rw [hB] at bb
  rw [hE2] at eb
  obtain ⟨M, hM, m0, m1⟩ : ∃ M, (B + E).tdiv 2 = M ∧ 86400 * jan Y - 700001 ≤ M ∧ M ≤ 86400 * jan Y + 32300001 := by
    obtain ⟨x, r, e1, _, _, _, _, _, e2, e3⟩ := quo_parts (B + E) 2 (by decide)
    refine ⟨x, e1, ?_, ?_⟩ <;> omega
  have CV := Lib.hid (fun t (h0 : 86400 * jan Y - 700010 ≤ t) (h1 : t ≤ 86400 * jan Y + 32300010) w (hB : BeforeAt w) (hK : KindsAt w) => by
    have hj : -400000000 ≤ jan Y ∧ jan Y ≤ 400000000 := by unfold jan; omega
    have := at_any P t (by omega) (by omega) w hB hK
    rw [some_at hok hne (by omega) (by omega), last_two q1 q2 q3 q4 (y := Y) (by omega) (by omega) h0 h1, bg_list, en_list, loc_of] at this
    exact this)
  have CB := Lib.hid (fun x (h0 : -2000000 ≤ x) (h1 : x ≤ 2000000) w hE => begins_any P q1 q2 q3 q4 x h0 h1 w hE)
  have CY := CB.out Y (by omega) (by omega)
  rw [hB, hE2] at CY
  have CY := Lib.hid CY
  obtain ⟨BI, hBI⟩ : ∃ f, begI P = f := ⟨_, rfl⟩
  obtain ⟨EI, hEI⟩ : ∃ f, endI P = f := ⟨_, rfl⟩
  rw [hBI, hEI] at CB CV
  have HE := Lib.hid hE
  have hj : -400000000 ≤ jan Y ∧ jan Y ≤ 400000000 := by unfold jan; omega
  obtain ⟨j0, j1⟩ := hj
  obtain ⟨b0, b1⟩ := bb
  obtain ⟨f0, f1⟩ := eb
  clear hok hsz hne q1 q2 q3 q4 hB hE2 hBI hEI hE
  obtain ⟨J, hJ⟩ : ∃ J, jan Y = J := ⟨_, rfl⟩
  rw [hJ] at b0 b1 f0 f1 m0 m1 j0 j1 CV
  clear hJ
  obtain ⟨a, b, c, o, ⟨e1, e2, e3, e4, e5⟩, ⟨g1, g2, g3, g4, g5⟩⟩ := P
  unfold Pos.val at CM CB CY CV
  unfold Loc at CV
  dsimp only at CM CB CY CV
  go_enter Tryz.func6, Tryz.ntmps6
  go_wp2_with fail
  refine (CM.out _).mono ?_
  rintro _ V ⟨rfl, hb⟩
  have K0 := Lib.hid ((((Kp.start W).alloc (.cells #[.int .u8 n0, .int .u8 n1, .int .u8 o0, .int .u8 o1, .int .u8 k0, .int .u8 k1, .int .u8 d0, .int .u8 d1, .int .u8 s0, .int .u8 s1, .bool false] 41)).keep hb).drop.alloc (.cells #[.string a, .int .i64 b, .string c, .int .i64 o, .int .i64 e1, .int .i64 e2, .int .i64 e3, .int .i64 e4, .int .i64 e5, .int .i64 g1, .int .i64 g2, .int .i64 g3, .int .i64 g4, .int .i64 g5] 25))
  clear hb
  go_wp2_with fail
  refine (CY.out _ (HE.out.keep K0.out.below)).mono ?_
  rintro _ V1 ⟨rfl, hb⟩
  have K1 := Lib.hid (((K0.out.keep hb).fresh 2 1).fresh 2 1)
  clear hb
  go_wp2_with fail
  go_loopw [10, 11, 12, 13, 14, 15] (fun v10 v11 i _ _ _ wr => ∃ n : Nat, n ≤ 9 ∧ i = .int .i64 ((n : Int) - 4) ∧ Bg BI EI Y [(V.heap.size, .cells #[.string a, .int .i64 b, .string c, .int .i64 o, .int .i64 e1, .int .i64 e2, .int .i64 e3, .int .i64 e4, .int .i64 e5, .int .i64 g1, .int .i64 g2, .int .i64 g3, .int .i64 g4, .int .i64 g5] 25)] W n v10 v11 wr) (fun _ _ i _ _ _ _ => (5 - intOf i).toNat)
  case atStart => exact ⟨0, by omega, rfl, K1.out⟩
  case round =>
    obtain ⟨n, hn, rfl, hK⟩ := hrel
    have HK := Lib.hid (show Kp _ _ W wr from hK)
    clear hK
    by_cases hlt : n < 9
    · have c0 : ((n : Int) - 4 ≤ 4) := by omega
      obtain ⟨p0, p1, p2, p3, p4, p5, p6, p7, p8, p9, p10, p11, p12, p13⟩ := row14 (HK.out.at 0 rfl)
      go_wp2_with fail
      refine (CB.out _ (by omega) (by omega) _ (HE.out.keep HK.out.below)).mono ?_
      rintro _ X ⟨rfl, hb⟩
      have K2 := Lib.hid (HK.out.keep hb)
      clear hb p0 p1 p2 p3 p4 p5 p6 p7 p8 p9 p10 p11 p12 p13
      have K3 := Lib.hid (K2.out.alloc (.cells #[.int .i64 (BI (Y + ((n : Int) - 4)))] 2))
      go_wp2_with (first
        | (at_builtin; refine wpList_append_own_at _ rfl (.tmp 54) (.tmp 56) 46 rfl W.heap.size 2 i0 (.int .i64 0) 1 8 Tryz.underlying46 hi hz0 hz1 hz2 rfl (by decide) _ n _ rfl (K3.out.row 0 rfl) ⟨X.heap.size, 0, none⟩ 1 1 [.int .i64 (BI (Y + ((n : Int) - 4)))] rfl rfl ?c1 ?c2 ?c3 ?c4 ?c5 ?_; (case c1 => exact cell_one_new _ _ _); (case c2 => simp [Value.oneCell']); (case c3 => unfold maxLen; omega); (case c4 => omega); (case c5 => exact K3.out.below.size); intro v' w1 hown hgrow _ hat; have K5 := Lib.hid (K3.out.append hown hgrow hat).drop; have K6 := Lib.hid (K5.out.swap.alloc (.cells #[.int .i64 (EI (Y + ((n : Int) - 4)))] 2)); clear hown hgrow hat)
        | (at_builtin; refine wpList_append_own_at _ rfl (.tmp 58) (.tmp 60) 46 rfl W.heap.size 2 i0 (.int .i64 0) 1 8 Tryz.underlying46 hi hz0 hz1 hz2 rfl (by decide) _ n _ rfl (K6.out.row 0 rfl) ⟨w1.heap.size, 0, none⟩ 1 1 [.int .i64 (EI (Y + ((n : Int) - 4)))] rfl rfl ?c1 ?c2 ?c3 ?c4 ?c5 ?_; (case c1 => exact cell_one_new _ _ _); (case c2 => simp [Value.oneCell']); (case c3 => unfold maxLen; omega); (case c4 => omega); (case c5 => exact K6.out.below.size); intro v'' w2 hown hgrow _ hat; have K7 := Lib.hid (K6.out.append hown hgrow hat).drop.swap; clear hown hgrow hat))
      go_roundw
      case rel =>
        refine ⟨n + 1, by omega, by go_num, ?_⟩
        show Kp _ _ W _
        rw [range_snoc BI Y n (x := BI (Y + ((n : Int) - 4))) (by congr 1; omega), range_snoc EI Y n (x := EI (Y + ((n : Int) - 4))) (by congr 1; omega)]
        exact K7.out
      case measure => simp [intOf]; omega
    · obtain rfl : n = 9 := by omega
      obtain ⟨BL, hBL⟩ : ∃ L, (List.range 9).map (fun (k : Nat) => BI (Y - 4 + (k : Int))) = L := ⟨_, rfl⟩
      obtain ⟨EL, hEL⟩ : ∃ L, (List.range 9).map (fun (k : Nat) => EI (Y - 4 + (k : Int))) = L := ⟨_, rfl⟩
      rw [hBL, hEL] at HK CV
      clear hBL hEL CB CY K0 K1
      obtain ⟨p0, p1, p2, p3, p4, p5, p6, p7, p8, p9, p10, p11, p12, p13⟩ := row14 (HK.out.at 0 rfl)
      have z0 := HK.out.lt 0 rfl
      go_upto_region 16 with fail
      go_cut [17, 18] (fun v17 v18 wx => ∃ b1 b2, v17 = .pointer (some ⟨b1, 0, none⟩) ∧ v18 = .pointer (some ⟨b2, 0, none⟩) ∧ Kp [(b2, .cells #[.int .i64 o, .bool true, .string c] 35), (b1, .cells #[.int .i64 b, .bool false, .string a] 35), (V.heap.size, .cells #[.string a, .int .i64 b, .string c, .int .i64 o, .int .i64 e1, .int .i64 e2, .int .i64 e3, .int .i64 e4, .int .i64 e5, .int .i64 g1, .int .i64 g2, .int .i64 g3, .int .i64 g4, .int .i64 g5] 25)] [⟨u10, 2, 1, 9, BL.map (Value.int .i64)⟩, ⟨u11, 2, 1, 9, EL.map (Value.int .i64)⟩] W wx)
      case first =>
        clear CV
        go_region
        all_goals
          go_wp2_with fail
          go_meet
          first
            | exact ⟨_, _, rfl, rfl, ((HK.out.alloc _).allocAt (wr.heap.size + 1) (by simp) _).drew⟩
            | exact ⟨_, _, rfl, rfl, ((HK.out.alloc _).allocAt (wr.heap.size + 1) (by simp) _).drew.swapL⟩
      case rest =>
        obtain ⟨b1, b2, rfl, rfl, hK⟩ := hcut
        have HK2 := Lib.hid hK
        have HK3 := Lib.hid (HK2.out.alloc (.cells #[.int .i64 B, .int .i64 (B - 1), .int .i64 (B + 1), .int .i64 E, .int .i64 (E - 1), .int .i64 (E + 1), .int .i64 M] 2))
        clear hK HK p0 p1 p2 p3 p4 p5 p6 p7 p8 p9 p10 p11 p12 p13 z0
        go_wp2_with fail
        go_loopw [20, 21, 22, 23, 88] (fun _ _ _ _ i wr => ∃ k : Nat, k ≤ 7 ∧ i = .int .i64 k ∧ Kp [(wc.heap.size, (.cells #[.int .i64 B, .int .i64 (B - 1), .int .i64 (B + 1), .int .i64 E, .int .i64 (E - 1), .int .i64 (E + 1), .int .i64 M] 2)), (b2, (.cells #[.int .i64 o, .bool true, .string c] 35)), (b1, (.cells #[.int .i64 b, .bool false, .string a] 35)), (V.heap.size, .cells #[.string a, .int .i64 b, .string c, .int .i64 o, .int .i64 e1, .int .i64 e2, .int .i64 e3, .int .i64 e4, .int .i64 e5, .int .i64 g1, .int .i64 g2, .int .i64 g3, .int .i64 g4, .int .i64 g5] 25)] [⟨u10, 2, 1, 9, BL.map (Value.int .i64)⟩, ⟨u11, 2, 1, 9, EL.map (Value.int .i64)⟩] W wr) (fun _ _ _ _ i _ => 7 - (intOf i).toNat)
        case atStart => exact ⟨0, by omega, rfl, HK3.out⟩
        case round =>
          obtain ⟨k, hk, rfl, hK⟩ := hrel
          have HK4 := Lib.hid hK
          clear hK
          by_cases hlt : k < 7
          · obtain ⟨t, ht, t0, t1⟩ : ∃ t, wr.cell? ⟨wc.heap.size, k, none⟩ = some (.int .i64 t) ∧ 86400 * J - 700010 ≤ t ∧ t ≤ 86400 * J + 32300010 := by
              obtain ⟨y0, y1, y2, y3, y4, y5, y6⟩ := row7' (HK4.out.at 0 rfl)
              rcases (show k = 0 ∨ k = 1 ∨ k = 2 ∨ k = 3 ∨ k = 4 ∨ k = 5 ∨ k = 6 by omega) with rfl | rfl | rfl | rfl | rfl | rfl | rfl
              · exact ⟨_, y0, by omega, by omega⟩
              · exact ⟨_, y1, by omega, by omega⟩
              · exact ⟨_, y2, by omega, by omega⟩
              · exact ⟨_, y3, by omega, by omega⟩
              · exact ⟨_, y4, by omega, by omega⟩
              · exact ⟨_, y5, by omega, by omega⟩
              · exact ⟨_, y6, by omega, by omega⟩
            obtain ⟨⟨q0, q1, q2⟩, _, _, _⟩ := row3 (HK4.out.at 1 rfl)
            obtain ⟨⟨r0, r1, r2⟩, _, _, _⟩ := row3 (HK4.out.at 2 rfl)
            obtain ⟨p0, p1, p2, p3, p4, p5, p6, p7, p8, p9, p10, p11, p12, p13⟩ := row14 (HK4.out.at 3 rfl)
            have z0 := HK4.out.lt 0 rfl
            have z2 := HK4.out.lt 1 rfl
            have z3 := HK4.out.lt 2 rfl
            have z4 := HK4.out.lt 3 rfl
            have CT := CV.out t t0 t1
            obtain ⟨LB, hLB⟩ : ∃ x, lastL t BL = x := ⟨_, rfl⟩
            obtain ⟨LE, hLE⟩ : ∃ x, lastL t EL = x := ⟨_, rfl⟩
            rw [hLB, hLE] at CT
            have K5 := Lib.hid (HK4.out.alloc (.cells #[.int .i64 b, .bool false, .string a] 35))
            by_cases hle : LE ≤ LB
            · skip
              rw [if_pos (show decide (LE ≤ LB) = true by simpa using hle)] at CT
              have CT := Lib.hid CT
              go_wp2_with fail
              refine (last_any t BL u10 _ (I64V.of_own (K5.out.row 0 rfl))).mono ?_
              rintro _ X1 ⟨rfl, rfl⟩
              rw [hLB]
              go_wp2_with fail
              refine (last_any t EL u11 _ (I64V.of_own (K5.out.row 1 rfl))).mono ?_
              rintro _ X2 ⟨rfl, rfl⟩
              rw [hLE]
              have K6 := Lib.hid (HK4.out.alloc (.cells #[.int .i64 o, .bool true, .string c] 35))
              go_wp2_with fail
              refine (CT.out _ (HE.out.keep K6.out.below).before (HE.out.keep K6.out.below).kinds).mono ?_
              rintro _ X3 ⟨rfl, hb⟩
              have K7 := Lib.hid (K6.out.keep hb)
              have K8 := Lib.hid (K7.out.alloc (.cells #[.int .i64 o, .bool true, .string c] 35))
              clear hb
              obtain ⟨⟨l0, l1, l2⟩, _, _, _⟩ := row3 (K7.out.at 0 rfl)
              have z1 := K7.out.lt 0 rfl
              go_wp2_with fail
              go_roundw
              case rel => first | exact ⟨k + 1, by omega, by go_num, K8.out.drop.drop⟩ | ((repeat apply Exists.intro); exact ⟨⟨k + 1, by omega, by go_num, K8.out.drop.drop⟩, rfl⟩)
              case measure => simp [intOf]; omega
            · skip
              rw [if_neg (show ¬ decide (LE ≤ LB) = true by simpa using hle)] at CT
              have CT := Lib.hid CT
              go_wp2_with fail
              refine (last_any t BL u10 _ (I64V.of_own (K5.out.row 0 rfl))).mono ?_
              rintro _ X1 ⟨rfl, rfl⟩
              rw [hLB]
              go_wp2_with fail
              refine (last_any t EL u11 _ (I64V.of_own (K5.out.row 1 rfl))).mono ?_
              rintro _ X2 ⟨rfl, rfl⟩
              rw [hLE]
              have K6 := K5
              go_wp2_with fail
              refine (CT.out _ (HE.out.keep K6.out.below).before (HE.out.keep K6.out.below).kinds).mono ?_
              rintro _ X3 ⟨rfl, hb⟩
              have K7 := Lib.hid (K6.out.keep hb)
              have K8 := Lib.hid (K7.out.alloc (.cells #[.int .i64 b, .bool false, .string a] 35))
              clear hb
              obtain ⟨⟨l0, l1, l2⟩, _, _, _⟩ := row3 (K7.out.at 0 rfl)
              have z1 := K7.out.lt 0 rfl
              go_wp2_with fail
              go_roundw
              case rel => first | exact ⟨k + 1, by omega, by go_num, K8.out.drop.drop⟩ | ((repeat apply Exists.intro); exact ⟨⟨k + 1, by omega, by go_num, K8.out.drop.drop⟩, rfl⟩)
              case measure => simp [intOf]; omega
          · obtain rfl : k = 7 := by omega
            go_wp2_with fail
            refine (works_any _ (HE.out.keep HK4.out.below)).mono ?_
            rintro _ X4 ⟨rfl, hb⟩
            have K9 := Lib.hid (HK4.out.keep hb)
            clear hb
            go_wp2_with fail
            go_ret
            exact ⟨rfl, K9.out.below⟩
end Go.Proofs.YtgllbagmmpicaaaGreatDoor.Px
