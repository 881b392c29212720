/- The law LexemeWrong returns true for all drafts, bytes and places, and its tied card holds; no condition beyond the row itself. -/
import Derived.Test.YtjdckmhlgcjdgaaDoorMade
import Derived.Test.YtjdckmhlgcjdgaaDoorLxS
import Derived.Test.YtjdckmhlgcjdgaaDoorLxC
import Derived.Deep.QuietTactic
import Derived.BigQuiet
import Derived.Deep.RegionHeld3
import Derived.Deep.AppendLies
import Derived.Deep.RegionLaw
import Derived.Outline
namespace Go.Proofs.YtjdckmhlgcjdgaaDoor
open Go.ChangeShapes Go.WideShapes Go.ChangeAt Go.RowKit
open Go.ChangeMaps (open_string)
open Lx
open Lex (strV bytesOf fieldsL fieldsE)

theorem max_at {W : World} (h : W.ShapedOpen Tryd.prog) : MaxAt W := by
  obtain ⟨m, hm⟩ := maxLen_cell h
  exact ⟨block_lt_of_cell hm, m, hm⟩
theorem sumL_made (F : List (List UInt8)) (h : ∀ p ∈ F, p.length ≤ 12) : sumL F ≤ F.length * 15 := by
  induction F with
  | nil => simp [sumL]
  | cons f r ih =>
    have h1 := h f (by simp)
    have h2 := ih (fun p hp => h p (by simp [hp]))
    simp [sumL] at h2 ⊢
    omega
theorem ends_x : Lx.Ends [32, 34, 120] := ends_quote [120] (fun _ _ _ => rfl)
/-- one byte as a text -/
theorem one_list (d : UInt8) : (bytesOf [d]).data.toList = [d] := rfl
theorem one_size (d : UInt8) : (bytesOf [d]).size = 1 := rfl
theorem joinS_more (F : List (List UInt8)) (hF : ∀ p ∈ F, p.length ≤ 12 ∧ goodF p = true) (hl : F.length ≤ 6) (d : UInt8) :
    (goodB d.toNat = false → joinS (F ++ [[120, d]]) = [] ∧ joinE (F ++ [[120, d]]) = 2) ∧
    (goodB d.toNat = true → joinS (F ++ [[120, d]]) ≠ [] ∧ joinE (F ++ [[120, d]]) = 0) := by
  have hall : F.all goodF = true := by rw [List.all_eq_true]; exact fun p hp => (hF p hp).2
  have hg : goodF [120, d] = goodB d.toNat := by
    have h120 : goodB (120 : UInt8).toNat = true := by decide
    unfold goodF
    rw [List.all_cons, List.all_cons, List.all_nil, h120, Bool.true_and, Bool.and_true]
  constructor
  · intro h
    have ha : (F ++ [[120, d]]).all goodF = false := by rw [List.all_append, List.all_cons, hg, h]; simp
    unfold joinS joinE
    rw [if_neg (by rw [ha]; simp), if_neg (by rw [ha]; simp)]
    exact ⟨rfl, rfl⟩
  · intro h
    have ha : (F ++ [[120, d]]).all goodF = true := by rw [List.all_append, List.all_cons, hg, h, hall]; simp
    have hs : sumL (F ++ [[120, d]]) ≤ 95 := by
      have h1 := sumL_made F (fun p hp => (hF p hp).1)
      have h2 : sumL (F ++ [[120, d]]) = sumL F + 5 := by simp [sumL]
      omega
    have hjl := joinL_len (F ++ [[120, d]])
    have hne : joinL (F ++ [[120, d]]) ≠ [] := by
      have hq : quoteF [120, d] ≠ [] := by unfold quoteF; split <;> simp
      cases F with
      | nil => simpa [joinL] using hq
      | cons f r =>
        rw [joinL_snoc _ _ (by simp)]
        simp
    unfold joinS joinE
    rw [if_pos ha, if_pos ha, if_neg (by omega), if_neg (by omega)]
    exact ⟨hne, rfl⟩

theorem clone_c (F : List (List UInt8)) (v : Value) (V : World) (hv : StrsV V v F) (hn : F.length ≤ 1000) :
    Calls Tryd.prog 23 #[v] V fun e w' => ∃ v', e = .returned v' ∧ w'.ownsRow V.heap.size 9 1 v' F.length (F.map strV) ∧ Below V.heap.size V w' := by
  obtain ⟨a, c, rfl, hc, hm, h⟩ := hv
  rcases h with rfl | ⟨b, off, rfl, hcell⟩
  · cases a with
    | none =>
      refine (Tryd.slices_Clone_string_nil _ c V).mono ?_
      rintro e V1 ⟨rfl, rfl⟩
      exact ⟨_, rfl, World.ownsRow_nil _ _ _ _, Below.refl _ _⟩
    | some ad =>
      refine (Tryd.slices_Clone_string_zero ad c V).mono ?_
      rintro e V1 ⟨v', rfl, h1, _, h2⟩
      exact ⟨v', rfl, h1, h2⟩
  · refine (Tryd.slices_Clone_string b off F.length c (F.map bytesOf) V (by simp) (by omega) (fun j hj => ?_)).mono ?_
    · rw [hcell j (by simpa using hj), getD_lt hj, getD_lt (by simpa using hj), List.getElem_map]; rfl
    · rintro e V1 ⟨v', rfl, h1, _, h2⟩
      refine ⟨v', rfl, ?_, h2⟩
      rw [List.take_of_length_le (by simp), List.map_map] at h1
      exact h1
theorem of_drew {B : Nat} {w w' : World} (h : Below B w.drew w') : Below B w w' := ⟨h.os, h.tape, h.output, h.size, h.block⟩
theorem bd {B : Nat} {a w : World} (h : Below B a w) : Below B a w.drew := ⟨h.os, h.tape, h.output, h.size, h.block⟩
theorem ba {W A : World} (h : Below W.heap.size W A) (o : Obj) : Below W.heap.size W (A.alloc o) := h.alloc h.size o
theorem bn {W A B : World} (h : Below W.heap.size W A) (k : Below A.heap.size A B) : Below W.heap.size W B := h.trans (k.mono h.size)
theorem own_mono {w : World} {b b' : Nat} {e : TypeId} {v : Value} {n : Nat} {xs : List Value} (h : w.ownsRow b e 1 v n xs) (hb : b' ≤ b) : w.ownsRow b' e 1 v n xs := by
  refine ⟨h.1, ?_⟩
  rcases h.2 with h2 | ⟨g, cap, cur, h3, h4, h5⟩
  · exact .inl h2
  · exact .inr ⟨g, cap, cur, h3, Nat.le_trans hb h4, h5⟩
theorem bg {W X w1 : World} {v : Value} {n : Nat} {xs : List Value} {row : Option Nat} (h : Below W.heap.size W X) (ho : X.ownsRow W.heap.size 9 1 v n xs) (hg : X.grownBy w1 row) (hr : row = v.ownBlock) : Below W.heap.size W w1 := by
  subst hr
  exact h.grown hg h.size (fun b hb => (ho.lt b hb).1)
theorem own_more {w : World} {b : Nat} {v : Value} {F : List (List UInt8)} {z : ByteArray} {f : List UInt8} (hz : z.data.toList = f) (h : w.ownsRow b 9 1 v (F.length + 1) (F.map strV ++ [.string z])) : StrsV w v (F ++ [f]) := by
  refine StrsV.of_own (B := b) ?_
  rw [bytesOf_eq hz] at h
  simpa [strV] using h
theorem news_one {w : World} {ad : Addr} {v : Value} (h : w.cell? ad = some v) : ∀ j u, [v][j]? = some u → w.cell? (ad.add j) = some u := by
  intro j u hj
  match j, hj with
  | 0, hj => simp at hj; subst hj; simpa [Addr.add] using h
theorem convert_one (d : UInt8) (W : World) (g : Nat) (h : W.cell? ⟨g, 0, none⟩ = some (.int .u8 (d.toNat : Int))) :
    (convert 41 9 (.slice (some ⟨g, 0, none⟩) 1 1)).run Tryd.prog W = .ok (.string (bytesOf [d])) W := by
  refine run_convert_bytes_back W 41 9 5 ⟨g, 0, none⟩ 1 [d] Tryd.underlying41 Tryd.underlying5 Tryd.underlying9 (fun j hj => ?_)
  have hj0 : j = 0 := by simpa using hj
  subst hj0
  simpa [Addr.add] using h
set_option maxHeartbeats 8000000 in
set_option maxRecDepth 100000 in
theorem lexemeWrong_w1 (R : List (List UInt8)) (a : Option Addr) (c : Nat) (hc : R.length ≤ c) (hcm : c ≤ maxLen) (d : UInt8) (l : Nat) (hl' : l ≤ 255) (W : World) (hR : RowsAt W a R) (hm : MaxAt W) (h1 : d.toNat < 32) (h9 : d.toNat ≠ 9) :
    Calls Tryd.prog 7 #[.slice a R.length c, .int .u8 (d.toNat : Int), .int .u8 l] W fun e w' => e = .returned (.bool true) ∧ Below W.heap.size W w' := by
  have HM := Lib.hid hm
  obtain ⟨i9, hi9, hz90, hz91, hz92⟩ := info_parts Lex.info9
  obtain ⟨q, hq⟩ : ∃ q, min R.length 6 = q := ⟨_, rfl⟩
  have hqR : q ≤ R.length := by omega
  have hmin : min (R.length : Int) 6 = (q : Int) := by omega
  have hR6 : RowsAt W a (R.take q) := by
    rcases hR with h | ⟨b, off, e, hcell⟩
    · left; rw [h]; simp
    · by_cases hq0 : q = 0
      · left; rw [hq0]; rfl
      · right
        refine ⟨b, off, e, fun i hi => ?_⟩
        have hi' : i < q := by rw [List.length_take] at hi; omega
        have e2 : (R.take q).getD i [] = R.getD i [] := by rw [getD_lt hi, getD_lt (by omega), List.getElem_take]
        rw [e2]
        exact hcell i (by omega)
  have hlen6 : (R.take q).length = q := by rw [List.length_take]; omega
  have CM := made_any (R.take q) a c (by omega) hcm W hR6
  rw [hlen6] at CM
  have CM := Lib.hid CM
  obtain ⟨F, hF⟩ : ∃ F, madeL (R.take q) = F := ⟨_, rfl⟩
  have hF1 : F.length ≤ 6 := by
    rw [← hF]
    unfold madeL
    rw [List.length_map, List.length_take, hlen6]; omega
  have hF2 : ∀ p ∈ F, p.length ≤ 12 ∧ goodF p = true := by rw [← hF]; exact fun p hp => madeL_mem hp
  have hFg : ∀ f ∈ F, goodF f = true := fun p hp => (hF2 p hp).2
  have hsum : sumL F ≤ 90 := by have := sumL_made F (fun p hp => (hF2 p hp).1); omega
  have hjl := joinL_len F
  have hall : F.all goodF = true := by rw [List.all_eq_true]; exact hFg
  have hjs : joinS F = joinL F ∧ joinE F = 0 := by
    unfold joinS joinE
    rw [if_pos hall, if_pos hall, if_neg (by omega), if_neg (by omega)]
    exact ⟨rfl, rfl⟩
  obtain ⟨y, hy⟩ : ∃ y, bytesOf (joinL F) = y := ⟨_, rfl⟩
  have hyl : y.data.toList = joinL F := by rw [← hy]; rfl
  have hyz : y.size ≤ 90 := by rw [← Lex.len_eq, hyl]; omega
  have CJ := Lib.hid (fun (v : Value) (V : World) (hv : StrsV V v F) => join_c F y 0 v V hv (fun p hp => by have := (hF2 p hp).1; omega) (by omega) (by rw [hjs.1]; exact hy) hjs.2)
  obtain ⟨x1, hx1⟩ : ∃ x1, bytesOf [d] = x1 := ⟨_, rfl⟩
  have hx1l : x1.data.toList = [d] := by rw [← hx1]; rfl
  have hx1z : x1.size = 1 := by rw [← hx1]; rfl
  -- a quote that does not end
  have hz1 : (y ++ ⟨#[32, 34, 120]⟩).size = y.size + 3 := by rw [ByteArray.size_append]; rfl
  obtain ⟨f1, f2⟩ := fields_no (l := (y ++ ⟨#[32, 34, 120]⟩).data.toList) (by rw [Lex.len_eq]; omega) (by rw [app_list, hyl]; exact go_join_no F hFg _ ends_x)
  have CF1 := Lib.hid (fun V : World => fields_c (y ++ ⟨#[32, 34, 120]⟩) [] 5 (by omega) f1 f2 V)
  -- a comment
  have hz2 : (y ++ ⟨#[32, 35, 32, 34]⟩ ++ x1).size = y.size + 5 := by rw [ByteArray.size_append, ByteArray.size_append, hx1z]; rfl
  obtain ⟨f3, f4⟩ := fields_of (l := (y ++ ⟨#[32, 35, 32, 34]⟩ ++ x1).data.toList) (F := F) (by rw [Lex.len_eq]; omega) (by rw [app_list, app_list, hyl, List.append_assoc]; exact go_join F hFg _ (clos_space (clos_hash _)))
  have CF2 := Lib.hid (fun V : World => fields_c (y ++ ⟨#[32, 35, 32, 34]⟩ ++ x1) F 0 (by omega) f3 f4 V)
  have hzl := Lib.hid (show ((⟨#[120]⟩ : ByteArray) ++ x1).data.toList = [120, d] by rw [app_list, hx1l]; rfl)
  have hjm := joinS_more F hF2 hF1 d
  obtain ⟨bg', hbg⟩ : ∃ b, goodB d.toNat = b := ⟨_, rfl⟩
  obtain ⟨o2, ho2⟩ : ∃ o, bytesOf (joinS (F ++ [[120, d]])) = o := ⟨_, rfl⟩
  obtain ⟨e2, he2⟩ : ∃ e, joinE (F ++ [[120, d]]) = e := ⟨_, rfl⟩
  have CJ2 := Lib.hid (fun (v : Value) (V : World) (hv : StrsV V v (F ++ [[120, d]])) => join_c (F ++ [[120, d]]) o2 e2 v V hv (fun p hp => by
    rcases List.mem_append.1 hp with h | h
    · have := (hF2 p h).1; omega
    · simp at h; subst h; simp) (by simp [sumL] at hsum ⊢; omega) ho2 he2)
  have HJM := Lib.hid (show (bg' = false → o2 = ⟨#[]⟩ ∧ e2 = 2) ∧ (bg' = true → ¬ o2.size = 0 ∧ e2 = 0) by
    rw [hbg] at hjm
    refine ⟨fun h => ?_, fun h => ?_⟩
    · obtain ⟨a1, a2⟩ := hjm.1 h
      rw [a1] at ho2
      exact ⟨ho2.symm, by rw [← he2, a2]⟩
    · obtain ⟨a1, a2⟩ := hjm.2 h
      refine ⟨?_, by rw [← he2, a2]⟩
      rw [← ho2, bytesOf_size, List.length_eq_zero_iff]
      exact a1)
  have HBG := Lib.hid hbg
  rw [hF] at CM
  have HF2 := Lib.hid hF2
  have hcv : ∀ w : World, (convert 41 9 (.slice (some ⟨w.heap.size, 0, none⟩) 1 1)).run Tryd.prog (w.alloc (.cells #[.int .u8 (d.toNat : Int)] 5)) = .ok (.string x1) (w.alloc (.cells #[.int .u8 (d.toNat : Int)] 5)) := by
    intro w
    rw [← hx1]
    exact convert_one d _ _ ((World.cell?_alloc_at _ _ _ _ rfl).trans rfl)
  have hcvd : ∀ w : World, (convert 41 9 (.slice (some ⟨w.heap.size, 0, none⟩) 1 1)).run Tryd.prog (w.alloc (.cells #[.int .u8 (d.toNat : Int)] 5)).drew = .ok (.string x1) (w.alloc (.cells #[.int .u8 (d.toNat : Int)] 5)).drew := by
    intro w
    rw [← hx1]
    exact convert_one d _ _ (show (w.alloc (.cells #[.int .u8 (d.toNat : Int)] 5)).cell? ⟨w.heap.size, 0, none⟩ = _ from (World.cell?_alloc_at _ _ _ _ rfl).trans rfl)
  have HCW := Lib.hid (show ∀ (W0 : World) (g : Nat), W0.cell? ⟨g, 0, none⟩ = some (.int .u8 (d.toNat : Int)) → (convert 41 9 (.slice (some ⟨g, 0, none⟩) 1 1)).run Tryd.prog W0 = .ok (.string x1) W0 from fun W0 g h => by rw [← hx1]; exact convert_one d W0 g h)
  obtain ⟨kk, hkk⟩ : ∃ kk, l % (y.size + 1) = kk := ⟨_, rfl⟩
  have hky : kk ≤ y.size := by have := Nat.mod_lt l (show 0 < y.size + 1 by omega); omega
  have tK : (l : Int) % ((y.size : Int) + 1) = (kk : Int) := by rw [← hkk]; simp
  have hkyi : (kk : Int) ≤ (y.size : Int) := by omega
  have hz3 : (y.extract 0 kk ++ x1 ++ y.extract kk y.size).size ≤ 300 := by
    rw [ByteArray.size_append, ByteArray.size_append, hx1z, ByteArray.size_extract, ByteArray.size_extract]; omega
  have CF3 := Lib.hid (fun (hbad : (d.toNat < 32 ∧ d.toNat ≠ 9) ∨ 126 < d.toNat) (V : World) => by
    have hno : Lex.fieldsGo (y.extract 0 kk ++ x1 ++ y.extract kk y.size).data.toList [] [] false false = none := by
      rw [app_list, app_list, ext_list, ext_list, hyl, hx1l, List.append_assoc, List.drop_zero, Nat.sub_zero]
      exact go_insert F hFg kk d hbad _
    obtain ⟨g1, g2⟩ := fields_no (l := (y.extract 0 kk ++ x1 ++ y.extract kk y.size).data.toList) (by rw [Lex.len_eq]; exact hz3) hno
    exact fields_c (y.extract 0 kk ++ x1 ++ y.extract kk y.size) [] 5 (by omega) g1 g2 V)
  unfold maxLen at hcm
  have hdl : (d.toNat : Int) ≤ 255 := by have := d.toNat_lt; omega
  have hli : (l : Int) ≤ 255 := by omega
  clear hm hF hR hR6 hjl hall hjs hy f1 f2 f3 f4 hz1 hz2 hq hlen6 hF2 hFg hsum hyl hkk hz3 hx1l hx1 hjm hbg ho2 he2
  go_enter Tryd.func7, Tryd.ntmps7
  go_wp2_with fail
  refine CM.out.mono ?_
  rintro e V1 ⟨v, rfl, hown, hB1⟩
  have B1 := Lib.hid hB1
  have hV := StrsV.of_own hown
  obtain ⟨a1, c1, rfl, h1, h2, h3⟩ := hV
  have HV := Lib.hid (show StrsV V1 (.slice a1 F.length c1) F from ⟨a1, c1, rfl, h1, h2, h3⟩)
  unfold maxLen at h2
  clear hown hB1 h3
  go_wp2_with fail
  refine (CJ.out _ _ HV.out).mono ?_
  rintro e V2 ⟨rfl, k2⟩
  have B2 := Lib.hid (B1.out.trans (k2.mono B1.out.size))
  have HV2 := Lib.hid (HV.out.keep k2)
  clear k2
  go_wp2_with fail
  refine (CF1.out _).mono ?_
  rintro e V3 ⟨v3, rfl, a3, k3⟩
  have B3 := Lib.hid (B2.out.trans (k3.mono B2.out.size))
  have HV3 := Lib.hid (HV2.out.keep k3)
  obtain ⟨ad3, cp3, rfl, _, _, _⟩ := a3
  clear k3
  go_wp2_with fail
  refine (CF2.out _).mono ?_
  rintro e V4 ⟨v4, rfl, a4, k4⟩
  have K4 := Lib.hid k4
  have A4 := Lib.hid a4
  clear a4 k4
  have B4 := Lib.hid (B3.out.trans (((Below.refl _ V3).alloc (Nat.le_refl _) _).mono B3.out.size |>.trans (K4.out.mono (by have := B3.out.size; simp; omega))))
  have HV4 := Lib.hid ((HV3.out.alloc (.cells #[.int .u8 (d.toNat : Int)] 5)).keep K4.out)
  go_wp2_with fail
  refine (equal_is true A4.out HV4.out (by simp)).mono ?_
  rintro e V5 ⟨rfl, nq, rfl⟩
  have B5 := Lib.hid (below_drewN B4.out nq)
  have HV5 := Lib.hid (HV4.out.drewN nq)
  obtain ⟨V6, hV6⟩ : ∃ V6, V4.drewN nq = V6 := ⟨_, rfl⟩
  rw [hV6] at B5 HV5 ⊢
  clear hV6 K4 A4
  have t1 : (d.toNat : Int) < 32 := by omega
  have t9 : ((d.toNat : Int) != 9) = true := by rw [bne_iff_ne]; omega
  have hgd : goodB d.toNat = false := by unfold goodB Lex.printB; first | (simp; omega) | (rw [h34]; rfl) | (rw [h9]; rfl)
  obtain rfl : bg' = false := HBG.out.symm.trans hgd
  obtain ⟨rfl, rfl⟩ := HJM.out.1 rfl
  clear HBG HJM hgd
  have C3 := Lib.hid (CF3.out (by omega))
  clear CF3
  go_wp2
  go_region_with (go_at_call 16; refine (C3.out _).mono ?_; rintro e V7 ⟨v7, rfl, a7, k7⟩; obtain ⟨ad7, cp7, rfl, _, _, _⟩ := a7; have K7 := Lib.hid (of_drew k7); clear k7)
  have B7 := Lib.hid (B5.out.trans (((Below.refl _ V6).alloc (Nat.le_refl _) _).mono B5.out.size |>.trans (K7.out.mono (by have := B5.out.size; simp; omega))))
  have HV7 := Lib.hid ((HV5.out.alloc (.cells #[.int .u8 (d.toNat : Int)] 5)).keep K7.out)
  go_wp2
  go_region_law (first
    | (go_simp; go_at_call 23; refine (clone_c F _ _ (by first | exact HV7.out | exact HV7.out.alloc _ | exact (HV7.out.alloc _).alloc _) (by omega)).mono ?_; rintro e V8 ⟨v8, rfl, o8, k8⟩; have B8 : Hid (Below W.heap.size W V8) := (by first | exact bn (bd B7.out) k8 | exact bn (bd (ba B7.out _)) k8 | exact bn (bd (ba (ba B7.out _) _)) k8); have O8 := Lib.hid (own_mono (b' := W.heap.size) o8 (by first | exact B7.out.size | exact (ba B7.out _).size | exact (ba (ba B7.out _) _).size)); try (have hcv8 := HCW.out V8 V7.heap.size ((k8.cell (p := ⟨V7.heap.size, 0, none⟩) (by first | (simp; done) | (simp; omega))).trans (by first | exact (World.cell?_alloc_at _ _ _ _ (by first | rfl | simp)).trans rfl | exact (World.cell?_alloc_past _ _ _ (by simp)).trans ((World.cell?_alloc_at _ _ _ _ (by first | rfl | simp)).trans rfl)))); have K8 := Lib.hid k8; clear o8 k8)
    | (go_simp; go_at_call 20; refine (CJ2.out _ _ (own_more hzl.out HO.out)).mono ?_; rintro e V9 ⟨rfl, k9⟩; have B9 := Lib.hid (bn Bw1.out k9); clear k9)
    | (refine step_append_lies _ (by rfl) (.tmp 103) (.tmp 108) 23 (by rfl) W.heap.size 9 i9 (.string ⟨#[]⟩) 1 16 Tryd.underlying23 hi9 hz90 hz91 hz92 rfl (by decide) v8 F.length (F.map strV) (by rfl) (by first | exact O8.out | exact O8.out.alloc _ | exact (O8.out.alloc _).alloc _) _ 1 1 [.string (⟨#[120]⟩ ++ x1)] (by rfl) rfl (news_one (by first | exact (World.cell?_alloc_at _ _ _ _ (by first | rfl | simp)).trans rfl | exact (K8.out.cell (by first | (simp; done) | (simp; omega))).trans ((World.cell?_alloc_at _ _ _ _ (by first | rfl | simp)).trans rfl))) (by simp [Value.oneCell']) (by omega) (by unfold maxLen; omega) (by omega) (by first | exact B8.out.size | exact (ba B8.out _).size | exact (ba (ba B8.out _) _).size) _ rfl ?_; intro g cap w1 hown1 hgrow hat hlt; have Bw1 : Hid (Below W.heap.size W w1) := (by first | exact bg B8.out O8.out hgrow rfl | exact bg (ba B8.out _) (O8.out.alloc _) hgrow rfl | exact bg (ba (ba B8.out _) _) ((O8.out.alloc _).alloc _) hgrow rfl); have HO := Lib.hid hown1; clear hown1 hgrow hat))
  all_goals
    go_wp2_with fail
    refine (works_any _ (HM.out.keep B9.out)).mono ?_
    rintro e V10 ⟨rfl, k10⟩
    go_wp2
    go_ret
    exact ⟨rfl, bn B9.out k10⟩
set_option maxHeartbeats 8000000 in
set_option maxRecDepth 100000 in
theorem lexemeWrong_w2 (R : List (List UInt8)) (a : Option Addr) (c : Nat) (hc : R.length ≤ c) (hcm : c ≤ maxLen) (d : UInt8) (l : Nat) (hl' : l ≤ 255) (W : World) (hR : RowsAt W a R) (hm : MaxAt W) (h9 : d.toNat = 9) :
    Calls Tryd.prog 7 #[.slice a R.length c, .int .u8 (d.toNat : Int), .int .u8 l] W fun e w' => e = .returned (.bool true) ∧ Below W.heap.size W w' := by
  have HM := Lib.hid hm
  have HEQ := Lib.hid h9
  clear h9
  obtain ⟨i9, hi9, hz90, hz91, hz92⟩ := info_parts Lex.info9
  obtain ⟨q, hq⟩ : ∃ q, min R.length 6 = q := ⟨_, rfl⟩
  have hqR : q ≤ R.length := by omega
  have hmin : min (R.length : Int) 6 = (q : Int) := by omega
  have hR6 : RowsAt W a (R.take q) := by
    rcases hR with h | ⟨b, off, e, hcell⟩
    · left; rw [h]; simp
    · by_cases hq0 : q = 0
      · left; rw [hq0]; rfl
      · right
        refine ⟨b, off, e, fun i hi => ?_⟩
        have hi' : i < q := by rw [List.length_take] at hi; omega
        have e2 : (R.take q).getD i [] = R.getD i [] := by rw [getD_lt hi, getD_lt (by omega), List.getElem_take]
        rw [e2]
        exact hcell i (by omega)
  have hlen6 : (R.take q).length = q := by rw [List.length_take]; omega
  have CM := made_any (R.take q) a c (by omega) hcm W hR6
  rw [hlen6] at CM
  have CM := Lib.hid CM
  obtain ⟨F, hF⟩ : ∃ F, madeL (R.take q) = F := ⟨_, rfl⟩
  have hF1 : F.length ≤ 6 := by
    rw [← hF]
    unfold madeL
    rw [List.length_map, List.length_take, hlen6]; omega
  have hF2 : ∀ p ∈ F, p.length ≤ 12 ∧ goodF p = true := by rw [← hF]; exact fun p hp => madeL_mem hp
  have hFg : ∀ f ∈ F, goodF f = true := fun p hp => (hF2 p hp).2
  have hsum : sumL F ≤ 90 := by have := sumL_made F (fun p hp => (hF2 p hp).1); omega
  have hjl := joinL_len F
  have hall : F.all goodF = true := by rw [List.all_eq_true]; exact hFg
  have hjs : joinS F = joinL F ∧ joinE F = 0 := by
    unfold joinS joinE
    rw [if_pos hall, if_pos hall, if_neg (by omega), if_neg (by omega)]
    exact ⟨rfl, rfl⟩
  obtain ⟨y, hy⟩ : ∃ y, bytesOf (joinL F) = y := ⟨_, rfl⟩
  have hyl : y.data.toList = joinL F := by rw [← hy]; rfl
  have hyz : y.size ≤ 90 := by rw [← Lex.len_eq, hyl]; omega
  have CJ := Lib.hid (fun (v : Value) (V : World) (hv : StrsV V v F) => join_c F y 0 v V hv (fun p hp => by have := (hF2 p hp).1; omega) (by omega) (by rw [hjs.1]; exact hy) hjs.2)
  obtain ⟨x1, hx1⟩ : ∃ x1, bytesOf [d] = x1 := ⟨_, rfl⟩
  have hx1l : x1.data.toList = [d] := by rw [← hx1]; rfl
  have hx1z : x1.size = 1 := by rw [← hx1]; rfl
  -- a quote that does not end
  have hz1 : (y ++ ⟨#[32, 34, 120]⟩).size = y.size + 3 := by rw [ByteArray.size_append]; rfl
  obtain ⟨f1, f2⟩ := fields_no (l := (y ++ ⟨#[32, 34, 120]⟩).data.toList) (by rw [Lex.len_eq]; omega) (by rw [app_list, hyl]; exact go_join_no F hFg _ ends_x)
  have CF1 := Lib.hid (fun V : World => fields_c (y ++ ⟨#[32, 34, 120]⟩) [] 5 (by omega) f1 f2 V)
  -- a comment
  have hz2 : (y ++ ⟨#[32, 35, 32, 34]⟩ ++ x1).size = y.size + 5 := by rw [ByteArray.size_append, ByteArray.size_append, hx1z]; rfl
  obtain ⟨f3, f4⟩ := fields_of (l := (y ++ ⟨#[32, 35, 32, 34]⟩ ++ x1).data.toList) (F := F) (by rw [Lex.len_eq]; omega) (by rw [app_list, app_list, hyl, List.append_assoc]; exact go_join F hFg _ (clos_space (clos_hash _)))
  have CF2 := Lib.hid (fun V : World => fields_c (y ++ ⟨#[32, 35, 32, 34]⟩ ++ x1) F 0 (by omega) f3 f4 V)
  have hzl := Lib.hid (show ((⟨#[120]⟩ : ByteArray) ++ x1).data.toList = [120, d] by rw [app_list, hx1l]; rfl)
  have hjm := joinS_more F hF2 hF1 d
  obtain ⟨bg', hbg⟩ : ∃ b, goodB d.toNat = b := ⟨_, rfl⟩
  obtain ⟨o2, ho2⟩ : ∃ o, bytesOf (joinS (F ++ [[120, d]])) = o := ⟨_, rfl⟩
  obtain ⟨e2, he2⟩ : ∃ e, joinE (F ++ [[120, d]]) = e := ⟨_, rfl⟩
  have CJ2 := Lib.hid (fun (v : Value) (V : World) (hv : StrsV V v (F ++ [[120, d]])) => join_c (F ++ [[120, d]]) o2 e2 v V hv (fun p hp => by
    rcases List.mem_append.1 hp with h | h
    · have := (hF2 p h).1; omega
    · simp at h; subst h; simp) (by simp [sumL] at hsum ⊢; omega) ho2 he2)
  have HJM := Lib.hid (show (bg' = false → o2 = ⟨#[]⟩ ∧ e2 = 2) ∧ (bg' = true → ¬ o2.size = 0 ∧ e2 = 0) by
    rw [hbg] at hjm
    refine ⟨fun h => ?_, fun h => ?_⟩
    · obtain ⟨a1, a2⟩ := hjm.1 h
      rw [a1] at ho2
      exact ⟨ho2.symm, by rw [← he2, a2]⟩
    · obtain ⟨a1, a2⟩ := hjm.2 h
      refine ⟨?_, by rw [← he2, a2]⟩
      rw [← ho2, bytesOf_size, List.length_eq_zero_iff]
      exact a1)
  have HBG := Lib.hid hbg
  rw [hF] at CM
  have HF2 := Lib.hid hF2
  have hcv : ∀ w : World, (convert 41 9 (.slice (some ⟨w.heap.size, 0, none⟩) 1 1)).run Tryd.prog (w.alloc (.cells #[.int .u8 (d.toNat : Int)] 5)) = .ok (.string x1) (w.alloc (.cells #[.int .u8 (d.toNat : Int)] 5)) := by
    intro w
    rw [← hx1]
    exact convert_one d _ _ ((World.cell?_alloc_at _ _ _ _ rfl).trans rfl)
  have hcvd : ∀ w : World, (convert 41 9 (.slice (some ⟨w.heap.size, 0, none⟩) 1 1)).run Tryd.prog (w.alloc (.cells #[.int .u8 (d.toNat : Int)] 5)).drew = .ok (.string x1) (w.alloc (.cells #[.int .u8 (d.toNat : Int)] 5)).drew := by
    intro w
    rw [← hx1]
    exact convert_one d _ _ (show (w.alloc (.cells #[.int .u8 (d.toNat : Int)] 5)).cell? ⟨w.heap.size, 0, none⟩ = _ from (World.cell?_alloc_at _ _ _ _ rfl).trans rfl)
  have HCW := Lib.hid (show ∀ (W0 : World) (g : Nat), W0.cell? ⟨g, 0, none⟩ = some (.int .u8 (d.toNat : Int)) → (convert 41 9 (.slice (some ⟨g, 0, none⟩) 1 1)).run Tryd.prog W0 = .ok (.string x1) W0 from fun W0 g h => by rw [← hx1]; exact convert_one d W0 g h)
  obtain ⟨kk, hkk⟩ : ∃ kk, l % (y.size + 1) = kk := ⟨_, rfl⟩
  have hky : kk ≤ y.size := by have := Nat.mod_lt l (show 0 < y.size + 1 by omega); omega
  have tK : (l : Int) % ((y.size : Int) + 1) = (kk : Int) := by rw [← hkk]; simp
  have hkyi : (kk : Int) ≤ (y.size : Int) := by omega
  have hz3 : (y.extract 0 kk ++ x1 ++ y.extract kk y.size).size ≤ 300 := by
    rw [ByteArray.size_append, ByteArray.size_append, hx1z, ByteArray.size_extract, ByteArray.size_extract]; omega
  have CF3 := Lib.hid (fun (hbad : (d.toNat < 32 ∧ d.toNat ≠ 9) ∨ 126 < d.toNat) (V : World) => by
    have hno : Lex.fieldsGo (y.extract 0 kk ++ x1 ++ y.extract kk y.size).data.toList [] [] false false = none := by
      rw [app_list, app_list, ext_list, ext_list, hyl, hx1l, List.append_assoc, List.drop_zero, Nat.sub_zero]
      exact go_insert F hFg kk d hbad _
    obtain ⟨g1, g2⟩ := fields_no (l := (y.extract 0 kk ++ x1 ++ y.extract kk y.size).data.toList) (by rw [Lex.len_eq]; exact hz3) hno
    exact fields_c (y.extract 0 kk ++ x1 ++ y.extract kk y.size) [] 5 (by omega) g1 g2 V)
  unfold maxLen at hcm
  have hdl : (d.toNat : Int) ≤ 255 := by have := d.toNat_lt; omega
  have hli : (l : Int) ≤ 255 := by omega
  clear hm hF hR hR6 hjl hall hjs hy f1 f2 f3 f4 hz1 hz2 hq hlen6 hF2 hFg hsum hyl hkk hz3 hx1l hx1 hjm hbg ho2 he2
  go_enter Tryd.func7, Tryd.ntmps7
  go_wp2_with fail
  refine CM.out.mono ?_
  rintro e V1 ⟨v, rfl, hown, hB1⟩
  have B1 := Lib.hid hB1
  have hV := StrsV.of_own hown
  obtain ⟨a1, c1, rfl, h1, h2, h3⟩ := hV
  have HV := Lib.hid (show StrsV V1 (.slice a1 F.length c1) F from ⟨a1, c1, rfl, h1, h2, h3⟩)
  unfold maxLen at h2
  clear hown hB1 h3
  go_wp2_with fail
  refine (CJ.out _ _ HV.out).mono ?_
  rintro e V2 ⟨rfl, k2⟩
  have B2 := Lib.hid (B1.out.trans (k2.mono B1.out.size))
  have HV2 := Lib.hid (HV.out.keep k2)
  clear k2
  go_wp2_with fail
  refine (CF1.out _).mono ?_
  rintro e V3 ⟨v3, rfl, a3, k3⟩
  have B3 := Lib.hid (B2.out.trans (k3.mono B2.out.size))
  have HV3 := Lib.hid (HV2.out.keep k3)
  obtain ⟨ad3, cp3, rfl, _, _, _⟩ := a3
  clear k3
  go_wp2_with fail
  refine (CF2.out _).mono ?_
  rintro e V4 ⟨v4, rfl, a4, k4⟩
  have K4 := Lib.hid k4
  have A4 := Lib.hid a4
  clear a4 k4
  have B4 := Lib.hid (B3.out.trans (((Below.refl _ V3).alloc (Nat.le_refl _) _).mono B3.out.size |>.trans (K4.out.mono (by have := B3.out.size; simp; omega))))
  have HV4 := Lib.hid ((HV3.out.alloc (.cells #[.int .u8 (d.toNat : Int)] 5)).keep K4.out)
  go_wp2_with fail
  refine (equal_is true A4.out HV4.out (by simp)).mono ?_
  rintro e V5 ⟨rfl, nq, rfl⟩
  have B5 := Lib.hid (below_drewN B4.out nq)
  have HV5 := Lib.hid (HV4.out.drewN nq)
  obtain ⟨V6, hV6⟩ : ∃ V6, V4.drewN nq = V6 := ⟨_, rfl⟩
  rw [hV6] at B5 HV5 ⊢
  clear hV6 K4 A4
  have h9 := HEQ.out
  have t1 : (d.toNat : Int) < 32 := by omega
  have t9 : ((d.toNat : Int) != 9) = false := by rw [h9]; rfl
  have t2 : (d.toNat : Int) ≤ 126 := by omega
  have hgd : goodB d.toNat = false := by unfold goodB Lex.printB; first | (simp; omega) | (rw [h34]; rfl) | (rw [h9]; rfl)
  obtain rfl : bg' = false := HBG.out.symm.trans hgd
  obtain ⟨rfl, rfl⟩ := HJM.out.1 rfl
  clear HBG HJM hgd h9 HEQ
  clear CF3
  go_wp2
  have B7 := B5
  have HV7 := HV5
  go_region_law (first
    | (go_simp; go_at_call 23; refine (clone_c F _ _ (by first | exact HV7.out | exact HV7.out.alloc _ | exact (HV7.out.alloc _).alloc _) (by omega)).mono ?_; rintro e V8 ⟨v8, rfl, o8, k8⟩; have B8 : Hid (Below W.heap.size W V8) := (by first | exact bn (bd B7.out) k8 | exact bn (bd (ba B7.out _)) k8 | exact bn (bd (ba (ba B7.out _) _)) k8); have O8 := Lib.hid (own_mono (b' := W.heap.size) o8 (by first | exact B7.out.size | exact (ba B7.out _).size | exact (ba (ba B7.out _) _).size)); try (have hcv8 := HCW.out V8 V6.heap.size ((k8.cell (p := ⟨V6.heap.size, 0, none⟩) (by first | (simp; done) | (simp; omega))).trans (by first | exact (World.cell?_alloc_at _ _ _ _ (by first | rfl | simp)).trans rfl | exact (World.cell?_alloc_past _ _ _ (by simp)).trans ((World.cell?_alloc_at _ _ _ _ (by first | rfl | simp)).trans rfl)))); have K8 := Lib.hid k8; clear o8 k8)
    | (go_simp; go_at_call 20; refine (CJ2.out _ _ (own_more hzl.out HO.out)).mono ?_; rintro e V9 ⟨rfl, k9⟩; have B9 := Lib.hid (bn Bw1.out k9); clear k9)
    | (refine step_append_lies _ (by rfl) (.tmp 103) (.tmp 108) 23 (by rfl) W.heap.size 9 i9 (.string ⟨#[]⟩) 1 16 Tryd.underlying23 hi9 hz90 hz91 hz92 rfl (by decide) v8 F.length (F.map strV) (by rfl) (by first | exact O8.out | exact O8.out.alloc _ | exact (O8.out.alloc _).alloc _) _ 1 1 [.string (⟨#[120]⟩ ++ x1)] (by rfl) rfl (news_one (by first | exact (World.cell?_alloc_at _ _ _ _ (by first | rfl | simp)).trans rfl | exact (K8.out.cell (by first | (simp; done) | (simp; omega))).trans ((World.cell?_alloc_at _ _ _ _ (by first | rfl | simp)).trans rfl))) (by simp [Value.oneCell']) (by omega) (by unfold maxLen; omega) (by omega) (by first | exact B8.out.size | exact (ba B8.out _).size | exact (ba (ba B8.out _) _).size) _ rfl ?_; intro g cap w1 hown1 hgrow hat hlt; have Bw1 : Hid (Below W.heap.size W w1) := (by first | exact bg B8.out O8.out hgrow rfl | exact bg (ba B8.out _) (O8.out.alloc _) hgrow rfl | exact bg (ba (ba B8.out _) _) ((O8.out.alloc _).alloc _) hgrow rfl); have HO := Lib.hid hown1; clear hown1 hgrow hat))
  all_goals
    go_wp2_with fail
    refine (works_any _ (HM.out.keep B9.out)).mono ?_
    rintro e V10 ⟨rfl, k10⟩
    go_wp2
    go_ret
    exact ⟨rfl, bn B9.out k10⟩
set_option maxHeartbeats 8000000 in
set_option maxRecDepth 100000 in
theorem lexemeWrong_w3 (R : List (List UInt8)) (a : Option Addr) (c : Nat) (hc : R.length ≤ c) (hcm : c ≤ maxLen) (d : UInt8) (l : Nat) (hl' : l ≤ 255) (W : World) (hR : RowsAt W a R) (hm : MaxAt W) (h1 : 126 < d.toNat) :
    Calls Tryd.prog 7 #[.slice a R.length c, .int .u8 (d.toNat : Int), .int .u8 l] W fun e w' => e = .returned (.bool true) ∧ Below W.heap.size W w' := by
  have HM := Lib.hid hm
  obtain ⟨i9, hi9, hz90, hz91, hz92⟩ := info_parts Lex.info9
  obtain ⟨q, hq⟩ : ∃ q, min R.length 6 = q := ⟨_, rfl⟩
  have hqR : q ≤ R.length := by omega
  have hmin : min (R.length : Int) 6 = (q : Int) := by omega
  have hR6 : RowsAt W a (R.take q) := by
    rcases hR with h | ⟨b, off, e, hcell⟩
    · left; rw [h]; simp
    · by_cases hq0 : q = 0
      · left; rw [hq0]; rfl
      · right
        refine ⟨b, off, e, fun i hi => ?_⟩
        have hi' : i < q := by rw [List.length_take] at hi; omega
        have e2 : (R.take q).getD i [] = R.getD i [] := by rw [getD_lt hi, getD_lt (by omega), List.getElem_take]
        rw [e2]
        exact hcell i (by omega)
  have hlen6 : (R.take q).length = q := by rw [List.length_take]; omega
  have CM := made_any (R.take q) a c (by omega) hcm W hR6
  rw [hlen6] at CM
  have CM := Lib.hid CM
  obtain ⟨F, hF⟩ : ∃ F, madeL (R.take q) = F := ⟨_, rfl⟩
  have hF1 : F.length ≤ 6 := by
    rw [← hF]
    unfold madeL
    rw [List.length_map, List.length_take, hlen6]; omega
  have hF2 : ∀ p ∈ F, p.length ≤ 12 ∧ goodF p = true := by rw [← hF]; exact fun p hp => madeL_mem hp
  have hFg : ∀ f ∈ F, goodF f = true := fun p hp => (hF2 p hp).2
  have hsum : sumL F ≤ 90 := by have := sumL_made F (fun p hp => (hF2 p hp).1); omega
  have hjl := joinL_len F
  have hall : F.all goodF = true := by rw [List.all_eq_true]; exact hFg
  have hjs : joinS F = joinL F ∧ joinE F = 0 := by
    unfold joinS joinE
    rw [if_pos hall, if_pos hall, if_neg (by omega), if_neg (by omega)]
    exact ⟨rfl, rfl⟩
  obtain ⟨y, hy⟩ : ∃ y, bytesOf (joinL F) = y := ⟨_, rfl⟩
  have hyl : y.data.toList = joinL F := by rw [← hy]; rfl
  have hyz : y.size ≤ 90 := by rw [← Lex.len_eq, hyl]; omega
  have CJ := Lib.hid (fun (v : Value) (V : World) (hv : StrsV V v F) => join_c F y 0 v V hv (fun p hp => by have := (hF2 p hp).1; omega) (by omega) (by rw [hjs.1]; exact hy) hjs.2)
  obtain ⟨x1, hx1⟩ : ∃ x1, bytesOf [d] = x1 := ⟨_, rfl⟩
  have hx1l : x1.data.toList = [d] := by rw [← hx1]; rfl
  have hx1z : x1.size = 1 := by rw [← hx1]; rfl
  -- a quote that does not end
  have hz1 : (y ++ ⟨#[32, 34, 120]⟩).size = y.size + 3 := by rw [ByteArray.size_append]; rfl
  obtain ⟨f1, f2⟩ := fields_no (l := (y ++ ⟨#[32, 34, 120]⟩).data.toList) (by rw [Lex.len_eq]; omega) (by rw [app_list, hyl]; exact go_join_no F hFg _ ends_x)
  have CF1 := Lib.hid (fun V : World => fields_c (y ++ ⟨#[32, 34, 120]⟩) [] 5 (by omega) f1 f2 V)
  -- a comment
  have hz2 : (y ++ ⟨#[32, 35, 32, 34]⟩ ++ x1).size = y.size + 5 := by rw [ByteArray.size_append, ByteArray.size_append, hx1z]; rfl
  obtain ⟨f3, f4⟩ := fields_of (l := (y ++ ⟨#[32, 35, 32, 34]⟩ ++ x1).data.toList) (F := F) (by rw [Lex.len_eq]; omega) (by rw [app_list, app_list, hyl, List.append_assoc]; exact go_join F hFg _ (clos_space (clos_hash _)))
  have CF2 := Lib.hid (fun V : World => fields_c (y ++ ⟨#[32, 35, 32, 34]⟩ ++ x1) F 0 (by omega) f3 f4 V)
  have hzl := Lib.hid (show ((⟨#[120]⟩ : ByteArray) ++ x1).data.toList = [120, d] by rw [app_list, hx1l]; rfl)
  have hjm := joinS_more F hF2 hF1 d
  obtain ⟨bg', hbg⟩ : ∃ b, goodB d.toNat = b := ⟨_, rfl⟩
  obtain ⟨o2, ho2⟩ : ∃ o, bytesOf (joinS (F ++ [[120, d]])) = o := ⟨_, rfl⟩
  obtain ⟨e2, he2⟩ : ∃ e, joinE (F ++ [[120, d]]) = e := ⟨_, rfl⟩
  have CJ2 := Lib.hid (fun (v : Value) (V : World) (hv : StrsV V v (F ++ [[120, d]])) => join_c (F ++ [[120, d]]) o2 e2 v V hv (fun p hp => by
    rcases List.mem_append.1 hp with h | h
    · have := (hF2 p h).1; omega
    · simp at h; subst h; simp) (by simp [sumL] at hsum ⊢; omega) ho2 he2)
  have HJM := Lib.hid (show (bg' = false → o2 = ⟨#[]⟩ ∧ e2 = 2) ∧ (bg' = true → ¬ o2.size = 0 ∧ e2 = 0) by
    rw [hbg] at hjm
    refine ⟨fun h => ?_, fun h => ?_⟩
    · obtain ⟨a1, a2⟩ := hjm.1 h
      rw [a1] at ho2
      exact ⟨ho2.symm, by rw [← he2, a2]⟩
    · obtain ⟨a1, a2⟩ := hjm.2 h
      refine ⟨?_, by rw [← he2, a2]⟩
      rw [← ho2, bytesOf_size, List.length_eq_zero_iff]
      exact a1)
  have HBG := Lib.hid hbg
  rw [hF] at CM
  have HF2 := Lib.hid hF2
  have hcv : ∀ w : World, (convert 41 9 (.slice (some ⟨w.heap.size, 0, none⟩) 1 1)).run Tryd.prog (w.alloc (.cells #[.int .u8 (d.toNat : Int)] 5)) = .ok (.string x1) (w.alloc (.cells #[.int .u8 (d.toNat : Int)] 5)) := by
    intro w
    rw [← hx1]
    exact convert_one d _ _ ((World.cell?_alloc_at _ _ _ _ rfl).trans rfl)
  have hcvd : ∀ w : World, (convert 41 9 (.slice (some ⟨w.heap.size, 0, none⟩) 1 1)).run Tryd.prog (w.alloc (.cells #[.int .u8 (d.toNat : Int)] 5)).drew = .ok (.string x1) (w.alloc (.cells #[.int .u8 (d.toNat : Int)] 5)).drew := by
    intro w
    rw [← hx1]
    exact convert_one d _ _ (show (w.alloc (.cells #[.int .u8 (d.toNat : Int)] 5)).cell? ⟨w.heap.size, 0, none⟩ = _ from (World.cell?_alloc_at _ _ _ _ rfl).trans rfl)
  have HCW := Lib.hid (show ∀ (W0 : World) (g : Nat), W0.cell? ⟨g, 0, none⟩ = some (.int .u8 (d.toNat : Int)) → (convert 41 9 (.slice (some ⟨g, 0, none⟩) 1 1)).run Tryd.prog W0 = .ok (.string x1) W0 from fun W0 g h => by rw [← hx1]; exact convert_one d W0 g h)
  obtain ⟨kk, hkk⟩ : ∃ kk, l % (y.size + 1) = kk := ⟨_, rfl⟩
  have hky : kk ≤ y.size := by have := Nat.mod_lt l (show 0 < y.size + 1 by omega); omega
  have tK : (l : Int) % ((y.size : Int) + 1) = (kk : Int) := by rw [← hkk]; simp
  have hkyi : (kk : Int) ≤ (y.size : Int) := by omega
  have hz3 : (y.extract 0 kk ++ x1 ++ y.extract kk y.size).size ≤ 300 := by
    rw [ByteArray.size_append, ByteArray.size_append, hx1z, ByteArray.size_extract, ByteArray.size_extract]; omega
  have CF3 := Lib.hid (fun (hbad : (d.toNat < 32 ∧ d.toNat ≠ 9) ∨ 126 < d.toNat) (V : World) => by
    have hno : Lex.fieldsGo (y.extract 0 kk ++ x1 ++ y.extract kk y.size).data.toList [] [] false false = none := by
      rw [app_list, app_list, ext_list, ext_list, hyl, hx1l, List.append_assoc, List.drop_zero, Nat.sub_zero]
      exact go_insert F hFg kk d hbad _
    obtain ⟨g1, g2⟩ := fields_no (l := (y.extract 0 kk ++ x1 ++ y.extract kk y.size).data.toList) (by rw [Lex.len_eq]; exact hz3) hno
    exact fields_c (y.extract 0 kk ++ x1 ++ y.extract kk y.size) [] 5 (by omega) g1 g2 V)
  unfold maxLen at hcm
  have hdl : (d.toNat : Int) ≤ 255 := by have := d.toNat_lt; omega
  have hli : (l : Int) ≤ 255 := by omega
  clear hm hF hR hR6 hjl hall hjs hy f1 f2 f3 f4 hz1 hz2 hq hlen6 hF2 hFg hsum hyl hkk hz3 hx1l hx1 hjm hbg ho2 he2
  go_enter Tryd.func7, Tryd.ntmps7
  go_wp2_with fail
  refine CM.out.mono ?_
  rintro e V1 ⟨v, rfl, hown, hB1⟩
  have B1 := Lib.hid hB1
  have hV := StrsV.of_own hown
  obtain ⟨a1, c1, rfl, h1, h2, h3⟩ := hV
  have HV := Lib.hid (show StrsV V1 (.slice a1 F.length c1) F from ⟨a1, c1, rfl, h1, h2, h3⟩)
  unfold maxLen at h2
  clear hown hB1 h3
  go_wp2_with fail
  refine (CJ.out _ _ HV.out).mono ?_
  rintro e V2 ⟨rfl, k2⟩
  have B2 := Lib.hid (B1.out.trans (k2.mono B1.out.size))
  have HV2 := Lib.hid (HV.out.keep k2)
  clear k2
  go_wp2_with fail
  refine (CF1.out _).mono ?_
  rintro e V3 ⟨v3, rfl, a3, k3⟩
  have B3 := Lib.hid (B2.out.trans (k3.mono B2.out.size))
  have HV3 := Lib.hid (HV2.out.keep k3)
  obtain ⟨ad3, cp3, rfl, _, _, _⟩ := a3
  clear k3
  go_wp2_with fail
  refine (CF2.out _).mono ?_
  rintro e V4 ⟨v4, rfl, a4, k4⟩
  have K4 := Lib.hid k4
  have A4 := Lib.hid a4
  clear a4 k4
  have B4 := Lib.hid (B3.out.trans (((Below.refl _ V3).alloc (Nat.le_refl _) _).mono B3.out.size |>.trans (K4.out.mono (by have := B3.out.size; simp; omega))))
  have HV4 := Lib.hid ((HV3.out.alloc (.cells #[.int .u8 (d.toNat : Int)] 5)).keep K4.out)
  go_wp2_with fail
  refine (equal_is true A4.out HV4.out (by simp)).mono ?_
  rintro e V5 ⟨rfl, nq, rfl⟩
  have B5 := Lib.hid (below_drewN B4.out nq)
  have HV5 := Lib.hid (HV4.out.drewN nq)
  obtain ⟨V6, hV6⟩ : ∃ V6, V4.drewN nq = V6 := ⟨_, rfl⟩
  rw [hV6] at B5 HV5 ⊢
  clear hV6 K4 A4
  have t1 : (32 : Int) ≤ (d.toNat : Int) := by omega
  have t2 : (126 : Int) < (d.toNat : Int) := by omega
  have hgd : goodB d.toNat = false := by unfold goodB Lex.printB; first | (simp; omega) | (rw [h34]; rfl) | (rw [h9]; rfl)
  obtain rfl : bg' = false := HBG.out.symm.trans hgd
  obtain ⟨rfl, rfl⟩ := HJM.out.1 rfl
  clear HBG HJM hgd
  have C3 := Lib.hid (CF3.out (by omega))
  clear CF3
  go_wp2
  go_region_with (go_at_call 16; refine (C3.out _).mono ?_; rintro e V7 ⟨v7, rfl, a7, k7⟩; obtain ⟨ad7, cp7, rfl, _, _, _⟩ := a7; have K7 := Lib.hid (of_drew k7); clear k7)
  have B7 := Lib.hid (B5.out.trans (((Below.refl _ V6).alloc (Nat.le_refl _) _).mono B5.out.size |>.trans (K7.out.mono (by have := B5.out.size; simp; omega))))
  have HV7 := Lib.hid ((HV5.out.alloc (.cells #[.int .u8 (d.toNat : Int)] 5)).keep K7.out)
  go_wp2
  go_region_law (first
    | (go_simp; go_at_call 23; refine (clone_c F _ _ (by first | exact HV7.out | exact HV7.out.alloc _ | exact (HV7.out.alloc _).alloc _) (by omega)).mono ?_; rintro e V8 ⟨v8, rfl, o8, k8⟩; have B8 : Hid (Below W.heap.size W V8) := (by first | exact bn (bd B7.out) k8 | exact bn (bd (ba B7.out _)) k8 | exact bn (bd (ba (ba B7.out _) _)) k8); have O8 := Lib.hid (own_mono (b' := W.heap.size) o8 (by first | exact B7.out.size | exact (ba B7.out _).size | exact (ba (ba B7.out _) _).size)); try (have hcv8 := HCW.out V8 V7.heap.size ((k8.cell (p := ⟨V7.heap.size, 0, none⟩) (by first | (simp; done) | (simp; omega))).trans (by first | exact (World.cell?_alloc_at _ _ _ _ (by first | rfl | simp)).trans rfl | exact (World.cell?_alloc_past _ _ _ (by simp)).trans ((World.cell?_alloc_at _ _ _ _ (by first | rfl | simp)).trans rfl)))); have K8 := Lib.hid k8; clear o8 k8)
    | (go_simp; go_at_call 20; refine (CJ2.out _ _ (own_more hzl.out HO.out)).mono ?_; rintro e V9 ⟨rfl, k9⟩; have B9 := Lib.hid (bn Bw1.out k9); clear k9)
    | (refine step_append_lies _ (by rfl) (.tmp 103) (.tmp 108) 23 (by rfl) W.heap.size 9 i9 (.string ⟨#[]⟩) 1 16 Tryd.underlying23 hi9 hz90 hz91 hz92 rfl (by decide) v8 F.length (F.map strV) (by rfl) (by first | exact O8.out | exact O8.out.alloc _ | exact (O8.out.alloc _).alloc _) _ 1 1 [.string (⟨#[120]⟩ ++ x1)] (by rfl) rfl (news_one (by first | exact (World.cell?_alloc_at _ _ _ _ (by first | rfl | simp)).trans rfl | exact (K8.out.cell (by first | (simp; done) | (simp; omega))).trans ((World.cell?_alloc_at _ _ _ _ (by first | rfl | simp)).trans rfl))) (by simp [Value.oneCell']) (by omega) (by unfold maxLen; omega) (by omega) (by first | exact B8.out.size | exact (ba B8.out _).size | exact (ba (ba B8.out _) _).size) _ rfl ?_; intro g cap w1 hown1 hgrow hat hlt; have Bw1 : Hid (Below W.heap.size W w1) := (by first | exact bg B8.out O8.out hgrow rfl | exact bg (ba B8.out _) (O8.out.alloc _) hgrow rfl | exact bg (ba (ba B8.out _) _) ((O8.out.alloc _).alloc _) hgrow rfl); have HO := Lib.hid hown1; clear hown1 hgrow hat))
  all_goals
    go_wp2_with fail
    refine (works_any _ (HM.out.keep B9.out)).mono ?_
    rintro e V10 ⟨rfl, k10⟩
    go_wp2
    go_ret
    exact ⟨rfl, bn B9.out k10⟩
set_option maxHeartbeats 8000000 in
set_option maxRecDepth 100000 in
theorem lexemeWrong_w4 (R : List (List UInt8)) (a : Option Addr) (c : Nat) (hc : R.length ≤ c) (hcm : c ≤ maxLen) (d : UInt8) (l : Nat) (hl' : l ≤ 255) (W : World) (hR : RowsAt W a R) (hm : MaxAt W) (h34 : d.toNat = 34) :
    Calls Tryd.prog 7 #[.slice a R.length c, .int .u8 (d.toNat : Int), .int .u8 l] W fun e w' => e = .returned (.bool true) ∧ Below W.heap.size W w' := by
  have HM := Lib.hid hm
  have HEQ := Lib.hid h34
  clear h34
  obtain ⟨i9, hi9, hz90, hz91, hz92⟩ := info_parts Lex.info9
  obtain ⟨q, hq⟩ : ∃ q, min R.length 6 = q := ⟨_, rfl⟩
  have hqR : q ≤ R.length := by omega
  have hmin : min (R.length : Int) 6 = (q : Int) := by omega
  have hR6 : RowsAt W a (R.take q) := by
    rcases hR with h | ⟨b, off, e, hcell⟩
    · left; rw [h]; simp
    · by_cases hq0 : q = 0
      · left; rw [hq0]; rfl
      · right
        refine ⟨b, off, e, fun i hi => ?_⟩
        have hi' : i < q := by rw [List.length_take] at hi; omega
        have e2 : (R.take q).getD i [] = R.getD i [] := by rw [getD_lt hi, getD_lt (by omega), List.getElem_take]
        rw [e2]
        exact hcell i (by omega)
  have hlen6 : (R.take q).length = q := by rw [List.length_take]; omega
  have CM := made_any (R.take q) a c (by omega) hcm W hR6
  rw [hlen6] at CM
  have CM := Lib.hid CM
  obtain ⟨F, hF⟩ : ∃ F, madeL (R.take q) = F := ⟨_, rfl⟩
  have hF1 : F.length ≤ 6 := by
    rw [← hF]
    unfold madeL
    rw [List.length_map, List.length_take, hlen6]; omega
  have hF2 : ∀ p ∈ F, p.length ≤ 12 ∧ goodF p = true := by rw [← hF]; exact fun p hp => madeL_mem hp
  have hFg : ∀ f ∈ F, goodF f = true := fun p hp => (hF2 p hp).2
  have hsum : sumL F ≤ 90 := by have := sumL_made F (fun p hp => (hF2 p hp).1); omega
  have hjl := joinL_len F
  have hall : F.all goodF = true := by rw [List.all_eq_true]; exact hFg
  have hjs : joinS F = joinL F ∧ joinE F = 0 := by
    unfold joinS joinE
    rw [if_pos hall, if_pos hall, if_neg (by omega), if_neg (by omega)]
    exact ⟨rfl, rfl⟩
  obtain ⟨y, hy⟩ : ∃ y, bytesOf (joinL F) = y := ⟨_, rfl⟩
  have hyl : y.data.toList = joinL F := by rw [← hy]; rfl
  have hyz : y.size ≤ 90 := by rw [← Lex.len_eq, hyl]; omega
  have CJ := Lib.hid (fun (v : Value) (V : World) (hv : StrsV V v F) => join_c F y 0 v V hv (fun p hp => by have := (hF2 p hp).1; omega) (by omega) (by rw [hjs.1]; exact hy) hjs.2)
  obtain ⟨x1, hx1⟩ : ∃ x1, bytesOf [d] = x1 := ⟨_, rfl⟩
  have hx1l : x1.data.toList = [d] := by rw [← hx1]; rfl
  have hx1z : x1.size = 1 := by rw [← hx1]; rfl
  -- a quote that does not end
  have hz1 : (y ++ ⟨#[32, 34, 120]⟩).size = y.size + 3 := by rw [ByteArray.size_append]; rfl
  obtain ⟨f1, f2⟩ := fields_no (l := (y ++ ⟨#[32, 34, 120]⟩).data.toList) (by rw [Lex.len_eq]; omega) (by rw [app_list, hyl]; exact go_join_no F hFg _ ends_x)
  have CF1 := Lib.hid (fun V : World => fields_c (y ++ ⟨#[32, 34, 120]⟩) [] 5 (by omega) f1 f2 V)
  -- a comment
  have hz2 : (y ++ ⟨#[32, 35, 32, 34]⟩ ++ x1).size = y.size + 5 := by rw [ByteArray.size_append, ByteArray.size_append, hx1z]; rfl
  obtain ⟨f3, f4⟩ := fields_of (l := (y ++ ⟨#[32, 35, 32, 34]⟩ ++ x1).data.toList) (F := F) (by rw [Lex.len_eq]; omega) (by rw [app_list, app_list, hyl, List.append_assoc]; exact go_join F hFg _ (clos_space (clos_hash _)))
  have CF2 := Lib.hid (fun V : World => fields_c (y ++ ⟨#[32, 35, 32, 34]⟩ ++ x1) F 0 (by omega) f3 f4 V)
  have hzl := Lib.hid (show ((⟨#[120]⟩ : ByteArray) ++ x1).data.toList = [120, d] by rw [app_list, hx1l]; rfl)
  have hjm := joinS_more F hF2 hF1 d
  obtain ⟨bg', hbg⟩ : ∃ b, goodB d.toNat = b := ⟨_, rfl⟩
  obtain ⟨o2, ho2⟩ : ∃ o, bytesOf (joinS (F ++ [[120, d]])) = o := ⟨_, rfl⟩
  obtain ⟨e2, he2⟩ : ∃ e, joinE (F ++ [[120, d]]) = e := ⟨_, rfl⟩
  have CJ2 := Lib.hid (fun (v : Value) (V : World) (hv : StrsV V v (F ++ [[120, d]])) => join_c (F ++ [[120, d]]) o2 e2 v V hv (fun p hp => by
    rcases List.mem_append.1 hp with h | h
    · have := (hF2 p h).1; omega
    · simp at h; subst h; simp) (by simp [sumL] at hsum ⊢; omega) ho2 he2)
  have HJM := Lib.hid (show (bg' = false → o2 = ⟨#[]⟩ ∧ e2 = 2) ∧ (bg' = true → ¬ o2.size = 0 ∧ e2 = 0) by
    rw [hbg] at hjm
    refine ⟨fun h => ?_, fun h => ?_⟩
    · obtain ⟨a1, a2⟩ := hjm.1 h
      rw [a1] at ho2
      exact ⟨ho2.symm, by rw [← he2, a2]⟩
    · obtain ⟨a1, a2⟩ := hjm.2 h
      refine ⟨?_, by rw [← he2, a2]⟩
      rw [← ho2, bytesOf_size, List.length_eq_zero_iff]
      exact a1)
  have HBG := Lib.hid hbg
  rw [hF] at CM
  have HF2 := Lib.hid hF2
  have hcv : ∀ w : World, (convert 41 9 (.slice (some ⟨w.heap.size, 0, none⟩) 1 1)).run Tryd.prog (w.alloc (.cells #[.int .u8 (d.toNat : Int)] 5)) = .ok (.string x1) (w.alloc (.cells #[.int .u8 (d.toNat : Int)] 5)) := by
    intro w
    rw [← hx1]
    exact convert_one d _ _ ((World.cell?_alloc_at _ _ _ _ rfl).trans rfl)
  have hcvd : ∀ w : World, (convert 41 9 (.slice (some ⟨w.heap.size, 0, none⟩) 1 1)).run Tryd.prog (w.alloc (.cells #[.int .u8 (d.toNat : Int)] 5)).drew = .ok (.string x1) (w.alloc (.cells #[.int .u8 (d.toNat : Int)] 5)).drew := by
    intro w
    rw [← hx1]
    exact convert_one d _ _ (show (w.alloc (.cells #[.int .u8 (d.toNat : Int)] 5)).cell? ⟨w.heap.size, 0, none⟩ = _ from (World.cell?_alloc_at _ _ _ _ rfl).trans rfl)
  have HCW := Lib.hid (show ∀ (W0 : World) (g : Nat), W0.cell? ⟨g, 0, none⟩ = some (.int .u8 (d.toNat : Int)) → (convert 41 9 (.slice (some ⟨g, 0, none⟩) 1 1)).run Tryd.prog W0 = .ok (.string x1) W0 from fun W0 g h => by rw [← hx1]; exact convert_one d W0 g h)
  obtain ⟨kk, hkk⟩ : ∃ kk, l % (y.size + 1) = kk := ⟨_, rfl⟩
  have hky : kk ≤ y.size := by have := Nat.mod_lt l (show 0 < y.size + 1 by omega); omega
  have tK : (l : Int) % ((y.size : Int) + 1) = (kk : Int) := by rw [← hkk]; simp
  have hkyi : (kk : Int) ≤ (y.size : Int) := by omega
  have hz3 : (y.extract 0 kk ++ x1 ++ y.extract kk y.size).size ≤ 300 := by
    rw [ByteArray.size_append, ByteArray.size_append, hx1z, ByteArray.size_extract, ByteArray.size_extract]; omega
  have CF3 := Lib.hid (fun (hbad : (d.toNat < 32 ∧ d.toNat ≠ 9) ∨ 126 < d.toNat) (V : World) => by
    have hno : Lex.fieldsGo (y.extract 0 kk ++ x1 ++ y.extract kk y.size).data.toList [] [] false false = none := by
      rw [app_list, app_list, ext_list, ext_list, hyl, hx1l, List.append_assoc, List.drop_zero, Nat.sub_zero]
      exact go_insert F hFg kk d hbad _
    obtain ⟨g1, g2⟩ := fields_no (l := (y.extract 0 kk ++ x1 ++ y.extract kk y.size).data.toList) (by rw [Lex.len_eq]; exact hz3) hno
    exact fields_c (y.extract 0 kk ++ x1 ++ y.extract kk y.size) [] 5 (by omega) g1 g2 V)
  unfold maxLen at hcm
  have hdl : (d.toNat : Int) ≤ 255 := by have := d.toNat_lt; omega
  have hli : (l : Int) ≤ 255 := by omega
  clear hm hF hR hR6 hjl hall hjs hy f1 f2 f3 f4 hz1 hz2 hq hlen6 hF2 hFg hsum hyl hkk hz3 hx1l hx1 hjm hbg ho2 he2
  go_enter Tryd.func7, Tryd.ntmps7
  go_wp2_with fail
  refine CM.out.mono ?_
  rintro e V1 ⟨v, rfl, hown, hB1⟩
  have B1 := Lib.hid hB1
  have hV := StrsV.of_own hown
  obtain ⟨a1, c1, rfl, h1, h2, h3⟩ := hV
  have HV := Lib.hid (show StrsV V1 (.slice a1 F.length c1) F from ⟨a1, c1, rfl, h1, h2, h3⟩)
  unfold maxLen at h2
  clear hown hB1 h3
  go_wp2_with fail
  refine (CJ.out _ _ HV.out).mono ?_
  rintro e V2 ⟨rfl, k2⟩
  have B2 := Lib.hid (B1.out.trans (k2.mono B1.out.size))
  have HV2 := Lib.hid (HV.out.keep k2)
  clear k2
  go_wp2_with fail
  refine (CF1.out _).mono ?_
  rintro e V3 ⟨v3, rfl, a3, k3⟩
  have B3 := Lib.hid (B2.out.trans (k3.mono B2.out.size))
  have HV3 := Lib.hid (HV2.out.keep k3)
  obtain ⟨ad3, cp3, rfl, _, _, _⟩ := a3
  clear k3
  go_wp2_with fail
  refine (CF2.out _).mono ?_
  rintro e V4 ⟨v4, rfl, a4, k4⟩
  have K4 := Lib.hid k4
  have A4 := Lib.hid a4
  clear a4 k4
  have B4 := Lib.hid (B3.out.trans (((Below.refl _ V3).alloc (Nat.le_refl _) _).mono B3.out.size |>.trans (K4.out.mono (by have := B3.out.size; simp; omega))))
  have HV4 := Lib.hid ((HV3.out.alloc (.cells #[.int .u8 (d.toNat : Int)] 5)).keep K4.out)
  go_wp2_with fail
  refine (equal_is true A4.out HV4.out (by simp)).mono ?_
  rintro e V5 ⟨rfl, nq, rfl⟩
  have B5 := Lib.hid (below_drewN B4.out nq)
  have HV5 := Lib.hid (HV4.out.drewN nq)
  obtain ⟨V6, hV6⟩ : ∃ V6, V4.drewN nq = V6 := ⟨_, rfl⟩
  rw [hV6] at B5 HV5 ⊢
  clear hV6 K4 A4
  have h34 := HEQ.out
  have t1 : (32 : Int) ≤ (d.toNat : Int) := by omega
  have t2 : (d.toNat : Int) ≤ 126 := by omega
  have t34 : ((d.toNat : Int) == 34) = true := by rw [h34]; rfl
  have hgd : goodB d.toNat = false := by unfold goodB Lex.printB; first | (simp; omega) | (rw [h34]; rfl) | (rw [h9]; rfl)
  obtain rfl : bg' = false := HBG.out.symm.trans hgd
  obtain ⟨rfl, rfl⟩ := HJM.out.1 rfl
  clear HBG HJM hgd h34 HEQ
  clear CF3
  go_wp2
  have B7 := B5
  have HV7 := HV5
  go_region_law (first
    | (go_simp; go_at_call 23; refine (clone_c F _ _ (by first | exact HV7.out | exact HV7.out.alloc _ | exact (HV7.out.alloc _).alloc _) (by omega)).mono ?_; rintro e V8 ⟨v8, rfl, o8, k8⟩; have B8 : Hid (Below W.heap.size W V8) := (by first | exact bn (bd B7.out) k8 | exact bn (bd (ba B7.out _)) k8 | exact bn (bd (ba (ba B7.out _) _)) k8); have O8 := Lib.hid (own_mono (b' := W.heap.size) o8 (by first | exact B7.out.size | exact (ba B7.out _).size | exact (ba (ba B7.out _) _).size)); try (have hcv8 := HCW.out V8 V6.heap.size ((k8.cell (p := ⟨V6.heap.size, 0, none⟩) (by first | (simp; done) | (simp; omega))).trans (by first | exact (World.cell?_alloc_at _ _ _ _ (by first | rfl | simp)).trans rfl | exact (World.cell?_alloc_past _ _ _ (by simp)).trans ((World.cell?_alloc_at _ _ _ _ (by first | rfl | simp)).trans rfl)))); have K8 := Lib.hid k8; clear o8 k8)
    | (go_simp; go_at_call 20; refine (CJ2.out _ _ (own_more hzl.out HO.out)).mono ?_; rintro e V9 ⟨rfl, k9⟩; have B9 := Lib.hid (bn Bw1.out k9); clear k9)
    | (refine step_append_lies _ (by rfl) (.tmp 103) (.tmp 108) 23 (by rfl) W.heap.size 9 i9 (.string ⟨#[]⟩) 1 16 Tryd.underlying23 hi9 hz90 hz91 hz92 rfl (by decide) v8 F.length (F.map strV) (by rfl) (by first | exact O8.out | exact O8.out.alloc _ | exact (O8.out.alloc _).alloc _) _ 1 1 [.string (⟨#[120]⟩ ++ x1)] (by rfl) rfl (news_one (by first | exact (World.cell?_alloc_at _ _ _ _ (by first | rfl | simp)).trans rfl | exact (K8.out.cell (by first | (simp; done) | (simp; omega))).trans ((World.cell?_alloc_at _ _ _ _ (by first | rfl | simp)).trans rfl))) (by simp [Value.oneCell']) (by omega) (by unfold maxLen; omega) (by omega) (by first | exact B8.out.size | exact (ba B8.out _).size | exact (ba (ba B8.out _) _).size) _ rfl ?_; intro g cap w1 hown1 hgrow hat hlt; have Bw1 : Hid (Below W.heap.size W w1) := (by first | exact bg B8.out O8.out hgrow rfl | exact bg (ba B8.out _) (O8.out.alloc _) hgrow rfl | exact bg (ba (ba B8.out _) _) ((O8.out.alloc _).alloc _) hgrow rfl); have HO := Lib.hid hown1; clear hown1 hgrow hat))
  all_goals
    go_wp2_with fail
    refine (works_any _ (HM.out.keep B9.out)).mono ?_
    rintro e V10 ⟨rfl, k10⟩
    go_wp2
    go_ret
    exact ⟨rfl, bn B9.out k10⟩
set_option maxHeartbeats 8000000 in
set_option maxRecDepth 100000 in
theorem lexemeWrong_w5 (R : List (List UInt8)) (a : Option Addr) (c : Nat) (hc : R.length ≤ c) (hcm : c ≤ maxLen) (d : UInt8) (l : Nat) (hl' : l ≤ 255) (W : World) (hR : RowsAt W a R) (hm : MaxAt W) (h1 : 32 ≤ d.toNat) (h2' : d.toNat ≤ 126) (h34 : d.toNat ≠ 34) :
    Calls Tryd.prog 7 #[.slice a R.length c, .int .u8 (d.toNat : Int), .int .u8 l] W fun e w' => e = .returned (.bool true) ∧ Below W.heap.size W w' := by
  have HM := Lib.hid hm
  obtain ⟨i9, hi9, hz90, hz91, hz92⟩ := info_parts Lex.info9
  obtain ⟨q, hq⟩ : ∃ q, min R.length 6 = q := ⟨_, rfl⟩
  have hqR : q ≤ R.length := by omega
  have hmin : min (R.length : Int) 6 = (q : Int) := by omega
  have hR6 : RowsAt W a (R.take q) := by
    rcases hR with h | ⟨b, off, e, hcell⟩
    · left; rw [h]; simp
    · by_cases hq0 : q = 0
      · left; rw [hq0]; rfl
      · right
        refine ⟨b, off, e, fun i hi => ?_⟩
        have hi' : i < q := by rw [List.length_take] at hi; omega
        have e2 : (R.take q).getD i [] = R.getD i [] := by rw [getD_lt hi, getD_lt (by omega), List.getElem_take]
        rw [e2]
        exact hcell i (by omega)
  have hlen6 : (R.take q).length = q := by rw [List.length_take]; omega
  have CM := made_any (R.take q) a c (by omega) hcm W hR6
  rw [hlen6] at CM
  have CM := Lib.hid CM
  obtain ⟨F, hF⟩ : ∃ F, madeL (R.take q) = F := ⟨_, rfl⟩
  have hF1 : F.length ≤ 6 := by
    rw [← hF]
    unfold madeL
    rw [List.length_map, List.length_take, hlen6]; omega
  have hF2 : ∀ p ∈ F, p.length ≤ 12 ∧ goodF p = true := by rw [← hF]; exact fun p hp => madeL_mem hp
  have hFg : ∀ f ∈ F, goodF f = true := fun p hp => (hF2 p hp).2
  have hsum : sumL F ≤ 90 := by have := sumL_made F (fun p hp => (hF2 p hp).1); omega
  have hjl := joinL_len F
  have hall : F.all goodF = true := by rw [List.all_eq_true]; exact hFg
  have hjs : joinS F = joinL F ∧ joinE F = 0 := by
    unfold joinS joinE
    rw [if_pos hall, if_pos hall, if_neg (by omega), if_neg (by omega)]
    exact ⟨rfl, rfl⟩
  obtain ⟨y, hy⟩ : ∃ y, bytesOf (joinL F) = y := ⟨_, rfl⟩
  have hyl : y.data.toList = joinL F := by rw [← hy]; rfl
  have hyz : y.size ≤ 90 := by rw [← Lex.len_eq, hyl]; omega
  have CJ := Lib.hid (fun (v : Value) (V : World) (hv : StrsV V v F) => join_c F y 0 v V hv (fun p hp => by have := (hF2 p hp).1; omega) (by omega) (by rw [hjs.1]; exact hy) hjs.2)
  obtain ⟨x1, hx1⟩ : ∃ x1, bytesOf [d] = x1 := ⟨_, rfl⟩
  have hx1l : x1.data.toList = [d] := by rw [← hx1]; rfl
  have hx1z : x1.size = 1 := by rw [← hx1]; rfl
  -- a quote that does not end
  have hz1 : (y ++ ⟨#[32, 34, 120]⟩).size = y.size + 3 := by rw [ByteArray.size_append]; rfl
  obtain ⟨f1, f2⟩ := fields_no (l := (y ++ ⟨#[32, 34, 120]⟩).data.toList) (by rw [Lex.len_eq]; omega) (by rw [app_list, hyl]; exact go_join_no F hFg _ ends_x)
  have CF1 := Lib.hid (fun V : World => fields_c (y ++ ⟨#[32, 34, 120]⟩) [] 5 (by omega) f1 f2 V)
  -- a comment
  have hz2 : (y ++ ⟨#[32, 35, 32, 34]⟩ ++ x1).size = y.size + 5 := by rw [ByteArray.size_append, ByteArray.size_append, hx1z]; rfl
  obtain ⟨f3, f4⟩ := fields_of (l := (y ++ ⟨#[32, 35, 32, 34]⟩ ++ x1).data.toList) (F := F) (by rw [Lex.len_eq]; omega) (by rw [app_list, app_list, hyl, List.append_assoc]; exact go_join F hFg _ (clos_space (clos_hash _)))
  have CF2 := Lib.hid (fun V : World => fields_c (y ++ ⟨#[32, 35, 32, 34]⟩ ++ x1) F 0 (by omega) f3 f4 V)
  have hzl := Lib.hid (show ((⟨#[120]⟩ : ByteArray) ++ x1).data.toList = [120, d] by rw [app_list, hx1l]; rfl)
  have hjm := joinS_more F hF2 hF1 d
  obtain ⟨bg', hbg⟩ : ∃ b, goodB d.toNat = b := ⟨_, rfl⟩
  obtain ⟨o2, ho2⟩ : ∃ o, bytesOf (joinS (F ++ [[120, d]])) = o := ⟨_, rfl⟩
  obtain ⟨e2, he2⟩ : ∃ e, joinE (F ++ [[120, d]]) = e := ⟨_, rfl⟩
  have CJ2 := Lib.hid (fun (v : Value) (V : World) (hv : StrsV V v (F ++ [[120, d]])) => join_c (F ++ [[120, d]]) o2 e2 v V hv (fun p hp => by
    rcases List.mem_append.1 hp with h | h
    · have := (hF2 p h).1; omega
    · simp at h; subst h; simp) (by simp [sumL] at hsum ⊢; omega) ho2 he2)
  have HJM := Lib.hid (show (bg' = false → o2 = ⟨#[]⟩ ∧ e2 = 2) ∧ (bg' = true → ¬ o2.size = 0 ∧ e2 = 0) by
    rw [hbg] at hjm
    refine ⟨fun h => ?_, fun h => ?_⟩
    · obtain ⟨a1, a2⟩ := hjm.1 h
      rw [a1] at ho2
      exact ⟨ho2.symm, by rw [← he2, a2]⟩
    · obtain ⟨a1, a2⟩ := hjm.2 h
      refine ⟨?_, by rw [← he2, a2]⟩
      rw [← ho2, bytesOf_size, List.length_eq_zero_iff]
      exact a1)
  have HBG := Lib.hid hbg
  rw [hF] at CM
  have HF2 := Lib.hid hF2
  have hcv : ∀ w : World, (convert 41 9 (.slice (some ⟨w.heap.size, 0, none⟩) 1 1)).run Tryd.prog (w.alloc (.cells #[.int .u8 (d.toNat : Int)] 5)) = .ok (.string x1) (w.alloc (.cells #[.int .u8 (d.toNat : Int)] 5)) := by
    intro w
    rw [← hx1]
    exact convert_one d _ _ ((World.cell?_alloc_at _ _ _ _ rfl).trans rfl)
  have hcvd : ∀ w : World, (convert 41 9 (.slice (some ⟨w.heap.size, 0, none⟩) 1 1)).run Tryd.prog (w.alloc (.cells #[.int .u8 (d.toNat : Int)] 5)).drew = .ok (.string x1) (w.alloc (.cells #[.int .u8 (d.toNat : Int)] 5)).drew := by
    intro w
    rw [← hx1]
    exact convert_one d _ _ (show (w.alloc (.cells #[.int .u8 (d.toNat : Int)] 5)).cell? ⟨w.heap.size, 0, none⟩ = _ from (World.cell?_alloc_at _ _ _ _ rfl).trans rfl)
  have HCW := Lib.hid (show ∀ (W0 : World) (g : Nat), W0.cell? ⟨g, 0, none⟩ = some (.int .u8 (d.toNat : Int)) → (convert 41 9 (.slice (some ⟨g, 0, none⟩) 1 1)).run Tryd.prog W0 = .ok (.string x1) W0 from fun W0 g h => by rw [← hx1]; exact convert_one d W0 g h)
  obtain ⟨kk, hkk⟩ : ∃ kk, l % (y.size + 1) = kk := ⟨_, rfl⟩
  have hky : kk ≤ y.size := by have := Nat.mod_lt l (show 0 < y.size + 1 by omega); omega
  have tK : (l : Int) % ((y.size : Int) + 1) = (kk : Int) := by rw [← hkk]; simp
  have hkyi : (kk : Int) ≤ (y.size : Int) := by omega
  have hz3 : (y.extract 0 kk ++ x1 ++ y.extract kk y.size).size ≤ 300 := by
    rw [ByteArray.size_append, ByteArray.size_append, hx1z, ByteArray.size_extract, ByteArray.size_extract]; omega
  have CF3 := Lib.hid (fun (hbad : (d.toNat < 32 ∧ d.toNat ≠ 9) ∨ 126 < d.toNat) (V : World) => by
    have hno : Lex.fieldsGo (y.extract 0 kk ++ x1 ++ y.extract kk y.size).data.toList [] [] false false = none := by
      rw [app_list, app_list, ext_list, ext_list, hyl, hx1l, List.append_assoc, List.drop_zero, Nat.sub_zero]
      exact go_insert F hFg kk d hbad _
    obtain ⟨g1, g2⟩ := fields_no (l := (y.extract 0 kk ++ x1 ++ y.extract kk y.size).data.toList) (by rw [Lex.len_eq]; exact hz3) hno
    exact fields_c (y.extract 0 kk ++ x1 ++ y.extract kk y.size) [] 5 (by omega) g1 g2 V)
  unfold maxLen at hcm
  have hdl : (d.toNat : Int) ≤ 255 := by have := d.toNat_lt; omega
  have hli : (l : Int) ≤ 255 := by omega
  clear hm hF hR hR6 hjl hall hjs hy f1 f2 f3 f4 hz1 hz2 hq hlen6 hF2 hFg hsum hyl hkk hz3 hx1l hx1 hjm hbg ho2 he2
  go_enter Tryd.func7, Tryd.ntmps7
  go_wp2_with fail
  refine CM.out.mono ?_
  rintro e V1 ⟨v, rfl, hown, hB1⟩
  have B1 := Lib.hid hB1
  have hV := StrsV.of_own hown
  obtain ⟨a1, c1, rfl, h1, h2, h3⟩ := hV
  have HV := Lib.hid (show StrsV V1 (.slice a1 F.length c1) F from ⟨a1, c1, rfl, h1, h2, h3⟩)
  unfold maxLen at h2
  clear hown hB1 h3
  go_wp2_with fail
  refine (CJ.out _ _ HV.out).mono ?_
  rintro e V2 ⟨rfl, k2⟩
  have B2 := Lib.hid (B1.out.trans (k2.mono B1.out.size))
  have HV2 := Lib.hid (HV.out.keep k2)
  clear k2
  go_wp2_with fail
  refine (CF1.out _).mono ?_
  rintro e V3 ⟨v3, rfl, a3, k3⟩
  have B3 := Lib.hid (B2.out.trans (k3.mono B2.out.size))
  have HV3 := Lib.hid (HV2.out.keep k3)
  obtain ⟨ad3, cp3, rfl, _, _, _⟩ := a3
  clear k3
  go_wp2_with fail
  refine (CF2.out _).mono ?_
  rintro e V4 ⟨v4, rfl, a4, k4⟩
  have K4 := Lib.hid k4
  have A4 := Lib.hid a4
  clear a4 k4
  have B4 := Lib.hid (B3.out.trans (((Below.refl _ V3).alloc (Nat.le_refl _) _).mono B3.out.size |>.trans (K4.out.mono (by have := B3.out.size; simp; omega))))
  have HV4 := Lib.hid ((HV3.out.alloc (.cells #[.int .u8 (d.toNat : Int)] 5)).keep K4.out)
  go_wp2_with fail
  refine (equal_is true A4.out HV4.out (by simp)).mono ?_
  rintro e V5 ⟨rfl, nq, rfl⟩
  have B5 := Lib.hid (below_drewN B4.out nq)
  have HV5 := Lib.hid (HV4.out.drewN nq)
  obtain ⟨V6, hV6⟩ : ∃ V6, V4.drewN nq = V6 := ⟨_, rfl⟩
  rw [hV6] at B5 HV5 ⊢
  clear hV6 K4 A4
  have t1 : (32 : Int) ≤ (d.toNat : Int) := by omega
  have t2 : (d.toNat : Int) ≤ 126 := by omega
  have t34 : ((d.toNat : Int) == 34) = false := by rw [beq_eq_false_iff_ne]; omega
  have hgd : goodB d.toNat = true := by unfold goodB Lex.printB; simp; omega
  obtain rfl : bg' = true := HBG.out.symm.trans hgd
  obtain ⟨ho2s, rfl⟩ := HJM.out.2 rfl
  have hE := str_ne ho2s
  clear ho2s
  clear HBG HJM hgd
  clear CF3
  go_wp2
  have B7 := B5
  have HV7 := HV5
  go_region_law (first
    | (go_simp; go_at_call 23; refine (clone_c F _ _ (by first | exact HV7.out | exact HV7.out.alloc _ | exact (HV7.out.alloc _).alloc _) (by omega)).mono ?_; rintro e V8 ⟨v8, rfl, o8, k8⟩; have B8 : Hid (Below W.heap.size W V8) := (by first | exact bn (bd B7.out) k8 | exact bn (bd (ba B7.out _)) k8 | exact bn (bd (ba (ba B7.out _) _)) k8); have O8 := Lib.hid (own_mono (b' := W.heap.size) o8 (by first | exact B7.out.size | exact (ba B7.out _).size | exact (ba (ba B7.out _) _).size)); try (have hcv8 := HCW.out V8 V6.heap.size ((k8.cell (p := ⟨V6.heap.size, 0, none⟩) (by first | (simp; done) | (simp; omega))).trans (by first | exact (World.cell?_alloc_at _ _ _ _ (by first | rfl | simp)).trans rfl | exact (World.cell?_alloc_past _ _ _ (by simp)).trans ((World.cell?_alloc_at _ _ _ _ (by first | rfl | simp)).trans rfl)))); have K8 := Lib.hid k8; clear o8 k8)
    | (go_simp; go_at_call 20; refine (CJ2.out _ _ (own_more hzl.out HO.out)).mono ?_; rintro e V9 ⟨rfl, k9⟩; have B9 := Lib.hid (bn Bw1.out k9); clear k9)
    | (refine step_append_lies _ (by rfl) (.tmp 103) (.tmp 108) 23 (by rfl) W.heap.size 9 i9 (.string ⟨#[]⟩) 1 16 Tryd.underlying23 hi9 hz90 hz91 hz92 rfl (by decide) v8 F.length (F.map strV) (by rfl) (by first | exact O8.out | exact O8.out.alloc _ | exact (O8.out.alloc _).alloc _) _ 1 1 [.string (⟨#[120]⟩ ++ x1)] (by rfl) rfl (news_one (by first | exact (World.cell?_alloc_at _ _ _ _ (by first | rfl | simp)).trans rfl | exact (K8.out.cell (by first | (simp; done) | (simp; omega))).trans ((World.cell?_alloc_at _ _ _ _ (by first | rfl | simp)).trans rfl))) (by simp [Value.oneCell']) (by omega) (by unfold maxLen; omega) (by omega) (by first | exact B8.out.size | exact (ba B8.out _).size | exact (ba (ba B8.out _) _).size) _ rfl ?_; intro g cap w1 hown1 hgrow hat hlt; have Bw1 : Hid (Below W.heap.size W w1) := (by first | exact bg B8.out O8.out hgrow rfl | exact bg (ba B8.out _) (O8.out.alloc _) hgrow rfl | exact bg (ba (ba B8.out _) _) ((O8.out.alloc _).alloc _) hgrow rfl); have HO := Lib.hid hown1; clear hown1 hgrow hat))
  all_goals
    go_wp2_with fail
    refine (works_any _ (HM.out.keep B9.out)).mono ?_
    rintro e V10 ⟨rfl, k10⟩
    go_wp2
    go_ret
    refine ⟨Lex.ret_bool ?_, bn B9.out k10⟩
    rw [decide_eq_false (by omega), decide_eq_false (by omega)]
    rfl
theorem lexemeWrong_walk (R : List (List UInt8)) (a : Option Addr) (c : Nat) (hc : R.length ≤ c) (hcm : c ≤ maxLen) (d : UInt8) (l : Nat) (hl' : l ≤ 255) (W : World) (hR : RowsAt W a R) (hm : MaxAt W) :
    Calls Tryd.prog 7 #[.slice a R.length c, .int .u8 (d.toNat : Int), .int .u8 l] W fun e w' => e = .returned (.bool true) ∧ Below W.heap.size W w' := by
  by_cases h1 : d.toNat < 32
  · by_cases h9 : d.toNat = 9
    · exact lexemeWrong_w2 R a c hc hcm d l hl' W hR hm h9
    · exact lexemeWrong_w1 R a c hc hcm d l hl' W hR hm h1 h9
  · by_cases h2 : 126 < d.toNat
    · exact lexemeWrong_w3 R a c hc hcm d l hl' W hR hm h2
    · by_cases h34 : d.toNat = 34
      · exact lexemeWrong_w4 R a c hc hcm d l hl' W hR hm h34
      · exact lexemeWrong_w5 R a c hc hcm d l hl' W hR hm (by omega) (by omega) h34
theorem lexemeWrong_int (R : List (List UInt8)) (a : Option Addr) (c : Nat) (hc : R.length ≤ c) (hcm : c ≤ maxLen) (n m : Int) (hn : (Lit.int .u8 n).wf = true) (hm' : (Lit.int .u8 m).wf = true) (W : World) (hR : RowsAt W a R) (hm : MaxAt W) :
    Calls Tryd.prog 7 #[.slice a R.length c, .int .u8 n, .int .u8 m] W fun e w' => e = .returned (.bool true) ∧ Below W.heap.size W w' := by
  have h2 := bounds_u8 hm'
  rw [← byteOf_wf hn]
  obtain ⟨m, rfl⟩ := Int.eq_ofNat_of_zero_le (show 0 ≤ m by omega)
  exact lexemeWrong_walk R a c hc hcm (byteOf n) m (by omega) W hR hm

namespace lexemeWrong
theorem own : ownKnob Tryd.prog.godebug = none := by kernel_rfl
set_option maxRecDepth 100000 in
theorem lifted (os : Os) (started : os.Started) (H : Type) (enc : TypeId × Value → H) :
    ReturnsInHanded {} Tryd.checked os 7 .any (fun w args => (Rows.lexemeWrongSpec.pre enc Tryd.prog Tryd.f7 Rows.lexemeWrongRow.domain false w args ∧ laidMetH Tryd.prog Rows.lexemeWrongRow.laid w) ∧ sizedMet enc Tryd.prog Tryd.f7 (OpenSpec.ofChange Rows.lexemeWrongSpec) false w args)
      (Rows.lexemeWrongSpec.post enc Tryd.prog Tryd.f7 false true false false) := by
  refine handed_shaped (X := fun w _ => laidMetH Tryd.prog Rows.lexemeWrongRow.laid w) own started (by kernel_rfl) Tryd.func7
    (ChangeSpec.witness_shaped (enc := enc) (C := Tryd.checked) (os := os) (X := fun w _ => laidMetH Tryd.prog Rows.lexemeWrongRow.laid w) false (World.laidAll Tryd.prog os Rows.lexemeWrongRow.laid) #[.slice none 0 0, .int .u8 0, .int .u8 0] 8 (World.laidAll_os _ _ _)
      (World.shaped_of_ZipB (by kernel_rfl) (by kernel_rfl)) (by kernel_rfl) (by kernel_rfl) (by kernel_rfl)
      (by rw [MakeChecks.laidMetH_plain _ _ _ (by kernel_rfl)]; exact laidMet_laidAll _ (by kernel_rfl) (by kernel_rfl))) ?_
  intro W base args ds gs before hval0 hW hsh
  have hval : ∀ (j : Nat) t v, Tryd.f7.params[j]? = some t → args[j]? = some v → Value.okWide Tryd.prog W .any base t v := hval0
  have hW' := hW
  obtain ⟨p, q, hA0, hV, rfl, _, _⟩ := hW
  have hA : DataW.TrodAll enc Tryd.prog W 0 (fun _ => true) true Tryd.f7.params.toList args.toList ds p := hA0
  rw [Tryd.params7] at hA hval
  obtain ⟨v0, vs0, d0, ds0, p0, q0, hargs, rfl, rfl, h0, r0⟩ := trodAll_cons hA
  obtain ⟨v1, vs1, d1, ds1, p1, q1, rfl, rfl, rfl, h1, r1⟩ := trodAll_cons r0
  obtain ⟨v2, vs2, d2, ds2, p2, q2, rfl, rfl, rfl, h2, r2⟩ := trodAll_cons r1
  obtain ⟨rfl, rfl, rfl⟩ := trodAll_nil r2
  obtain rfl : args = #[v0, v1, v2] := by cases args; simp_all
  obtain ⟨rfl, rfl⟩ := trodVars_none hV
  obtain ⟨a0, c0, R0, rfl, hc0, hx0, hb0⟩ := open_rows Tryd.underlying30 (hval 0 30 v0 rfl rfl) h0
  obtain ⟨n1, rfl, rfl, rfl, hn1⟩ := open_int Tryd.underlying5 (hval 1 5 v1 rfl rfl) h1
  obtain ⟨n2, rfl, rfl, rfl, hn2⟩ := open_int Tryd.underlying5 (hval 2 5 v2 rfl rfl) h2
  refine (lexemeWrong_int R0 a0 c0 hc0 hx0 n1 n2 hn1 hn2 W hb0 (max_at hsh)).mono fun e W' ⟨he, hB⟩ => ?_
  subst he
  refine ⟨_, rfl, post_law (by kernel_rfl) ?_ rfl hW' rfl rfl Tryd.underlying4 hB⟩
  rw [Tryd.params7]
  intro t ht
  have hall : ([30, 5, 5].all fun u => Tryd.prog.readableRec u && decide (u < Tryd.prog.types.size)) = true := by kernel_rfl
  have h1 := List.all_eq_true.1 hall t ht
  have h2 : Tryd.prog.readableRec t = true ∧ t < Tryd.prog.types.size := by simpa using h1
  exact h2

theorem said : Rows.LexemeWrongSaid :=
  OpenClaim.holds_of_wide 7 Tryd.f7 rfl rfl rfl rfl rfl rfl rfl ⟨rfl, rfl, rfl, rfl, rfl⟩ rfl rfl rfl rfl rfl (by kernel_rfl) Tryd.func7 (by kernel_rfl)
    (of_decide_eq_true (by kernel_rfl)) (by unfold Func.isWrapper; first | (rw [if_pos (by decide +kernel)]; kernel_rfl) | (rw [if_neg (by decide +kernel)]; exact ⟨rfl, rfl⟩))
    (fun os started H enc _ => lifted os started H enc)
theorem plain (f : FuncId) (fn : Func) (hf : Tryd.pinned.checked.prog.funcNamed "analemma/analemmalaw05.LexemeWrong" = some f) (hfn : Tryd.pinned.checked.prog.funcs[f]? = some fn) :
    false = Tryd.pinned.checked.prog.looks [] ∧ ∀ (j : Nat) t, fn.params[j]? = some t → Tryd.pinned.checked.prog.wantsStandIn t = false := by
  obtain rfl : f = 7 := Option.some.inj ((show Tryd.prog.funcNamed "analemma/analemmalaw05.LexemeWrong" = some 7 by kernel_rfl).symm.trans hf) |>.symm
  obtain rfl : fn = Tryd.f7 := (Option.some.inj (Tryd.func7.symm.trans hfn)).symm
  refine ⟨by kernel_rfl, fun j t ht => ?_⟩
  rw [Tryd.params7] at ht
  have hm : t ∈ [30, 5, 5] := by simpa using Array.mem_of_getElem? ht
  have hall : ([30, 5, 5].all fun u => !Tryd.prog.wantsStandIn u) = true := by kernel_rfl
  exact (show Tryd.prog.wantsStandIn t = false by simpa using List.all_eq_true.1 hall t hm)
theorem card : Rows.LexemeWrongCardSaid :=
  Claim7.holds_tied_plain_at .later [] _ _ _ _ said (fun _ h => by cases h) (by kernel_rfl) (fun _ h => by cases h) lexemeWrong_row_tie rfl ⟨rfl, rfl⟩ (by kernel_rfl) rfl plain (by kernel_rfl)
end lexemeWrong
#print axioms lexemeWrong.card
end Go.Proofs.YtjdckmhlgcjdgaaDoor
