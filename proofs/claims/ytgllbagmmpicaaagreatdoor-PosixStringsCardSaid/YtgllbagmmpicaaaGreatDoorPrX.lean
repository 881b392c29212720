/- The method date of analemmaref37.Reader. -/
import Derived.Test.YtgllbagmmpicaaaGreatDoorPrV
import Derived.Test.YtgllbagmmpicaaaGreatDoorPrR
namespace Go.Proofs.YtgllbagmmpicaaaGreatDoor.Px
open Go.RowKit
open Civ
open Off (run past digQ parseO parsePost)

/-- a date and a reader's state behind it -/
def DfPost (w : World) (b : Nat) (r : Dr) (q : Bool) (e : Ending) (w' : World) : Prop := e = .returned r.d.val ∧ But b w w' ∧ RfAt w' b r.l (q || r.b)
/-- the blocks of the function date -/
structure Rfi (w : World) (b : Nat) (l : List UInt8) (q : Bool) (k d m x s : Int) (wr : World) : Prop where
  but : But b w wr
  rd : RfAt wr b l q
  res : wr.heap[w.heap.size]? = some (.cells #[.int .i64 0, .int .i64 0, .int .i64 0, .int .i64 0, .int .i64 0] 23 (0, 0))
  dt : wr.heap[w.heap.size + 1]? = some (.cells #[.int .i64 k, .int .i64 d, .int .i64 m, .int .i64 x, .int .i64 s] 23 (0, 0))
theorem Rfi.call {w : World} {b : Nat} {l l' : List UInt8} {q q' : Bool} {k d m x s : Int} {wr W : World} (h : Rfi w b l q k d m x s wr) (hlt : b < w.heap.size) (hB : But b wr W) (hr : RfAt W b l' q') : Rfi w b l' q' k d m x s W :=
  ⟨h.but.trans hB, hr, hB.heap h.res (by omega), hB.heap h.dt (by omega)⟩
theorem Rfi.row {w : World} {b : Nat} {l : List UInt8} {q : Bool} {k d m x s : Int} {wr : World} (h : Rfi w b l q k d m x s wr) :
    (wr.cell? ⟨w.heap.size + 1, 0, none⟩ = some (.int .i64 k) ∧ wr.cell? ⟨w.heap.size + 1, 1, none⟩ = some (.int .i64 d) ∧ wr.cell? ⟨w.heap.size + 1, 2, none⟩ = some (.int .i64 m) ∧ wr.cell? ⟨w.heap.size + 1, 3, none⟩ = some (.int .i64 x) ∧ wr.cell? ⟨w.heap.size + 1, 4, none⟩ = some (.int .i64 s)) ∧
    wr.frozen? ⟨w.heap.size + 1, 0, none⟩ = false ∧ wr.frozen? ⟨w.heap.size + 1, 1, none⟩ = false ∧ wr.frozen? ⟨w.heap.size + 1, 2, none⟩ = false ∧ wr.frozen? ⟨w.heap.size + 1, 3, none⟩ = false ∧ wr.frozen? ⟨w.heap.size + 1, 4, none⟩ = false :=
  ⟨⟨cells_at h.dt 0, cells_at h.dt 1, cells_at h.dt 2, cells_at h.dt 3, cells_at h.dt 4⟩, free_at h.dt 0, free_at h.dt 1, free_at h.dt 2, free_at h.dt 3, free_at h.dt 4⟩
theorem Rfi.set {w : World} {b : Nat} {l : List UInt8} {q : Bool} {k d m x s : Int} {wr : World} (h : Rfi w b l q k d m x s wr) (hlt : b < w.heap.size) (i : Nat) (u : Value) (k' d' m' x' s' : Int)
    (he : (#[.int .i64 k, .int .i64 d, .int .i64 m, .int .i64 x, .int .i64 s] : Array Value).setIfInBounds i u = #[.int .i64 k', .int .i64 d', .int .i64 m', .int .i64 x', .int .i64 s']) :
    Rfi w b l q k' d' m' x' s' (wr.setCell ⟨w.heap.size + 1, i, none⟩ u) := by
  have hb : But b wr (wr.setCell ⟨w.heap.size + 1, i, none⟩ u) → True := fun _ => trivial
  refine ⟨⟨h.but.below.setCell (by show b ≤ w.heap.size + 1; omega) u, fun j h1 h2 => (Below.heap_setCell _ _ _ _ (by show j ≠ w.heap.size + 1; omega)).trans (h.but.above j h1 h2)⟩, ?_, ?_, ?_⟩
  · exact (Below.heap_setCell _ _ _ _ (by show b ≠ w.heap.size + 1; omega)).trans h.rd
  · exact (Below.heap_setCell _ _ _ _ (by show w.heap.size ≠ w.heap.size + 1; omega)).trans h.res
  · rw [← he]; exact cells_set h.dt i u
theorem Rfi.rrow {w : World} {b : Nat} {l : List UInt8} {q : Bool} {k d m x s : Int} {wr : World} (h : Rfi w b l q k d m x s wr) :
    (wr.cell? ⟨w.heap.size, 0, none⟩ = some (.int .i64 0) ∧ wr.cell? ⟨w.heap.size, 1, none⟩ = some (.int .i64 0) ∧ wr.cell? ⟨w.heap.size, 2, none⟩ = some (.int .i64 0) ∧ wr.cell? ⟨w.heap.size, 3, none⟩ = some (.int .i64 0) ∧ wr.cell? ⟨w.heap.size, 4, none⟩ = some (.int .i64 0)) ∧
    wr.frozen? ⟨w.heap.size, 0, none⟩ = false ∧ wr.frozen? ⟨w.heap.size, 1, none⟩ = false ∧ wr.frozen? ⟨w.heap.size, 2, none⟩ = false ∧ wr.frozen? ⟨w.heap.size, 3, none⟩ = false ∧ wr.frozen? ⟨w.heap.size, 4, none⟩ = false :=
  ⟨⟨cells_at h.res 0, cells_at h.res 1, cells_at h.res 2, cells_at h.res 3, cells_at h.res 4⟩, free_at h.res 0, free_at h.res 1, free_at h.res 2, free_at h.res 3, free_at h.res 4⟩
/-- a reader, and all blocks but it as they were -/
structure RfB (w : World) (b : Nat) (l : List UInt8) (q : Bool) (wr : World) : Prop where
  but : But b w wr
  rd : RfAt wr b l q
theorem RfB.set {w : World} {b : Nat} {l : List UInt8} {q : Bool} {wr : World} (h : RfB w b l q wr) (hlt : b < w.heap.size) (k i : Nat) (hk : w.heap.size ≤ k) (u : Value) : RfB w b l q (wr.setCell ⟨k, i, none⟩ u) :=
  ⟨⟨h.but.below.setCell (by show b ≤ k; omega) u, fun j h1 h2 => (Below.heap_setCell _ _ _ _ (by show j ≠ k; omega)).trans (h.but.above j h1 h2)⟩, (Below.heap_setCell _ _ _ _ (by show b ≠ k; omega)).trans h.rd⟩
theorem Rfi.start (w : World) (b : Nat) (l : List UInt8) (q : Bool) (h : RfAt w b l q) : Rfi w b l q 2 0 0 0 7200 ((w.alloc (.cells #[.int .i64 0, .int .i64 0, .int .i64 0, .int .i64 0, .int .i64 0] 23)).alloc (.cells #[.int .i64 2, .int .i64 0, .int .i64 0, .int .i64 0, .int .i64 7200] 23)) := by
  have hz : (w.alloc (.cells #[.int .i64 0, .int .i64 0, .int .i64 0, .int .i64 0, .int .i64 0] 23)).heap.size = w.heap.size + 1 := by simp
  have hB : Below w.heap.size w ((w.alloc (.cells #[.int .i64 0, .int .i64 0, .int .i64 0, .int .i64 0, .int .i64 0] 23)).alloc (.cells #[.int .i64 2, .int .i64 0, .int .i64 0, .int .i64 0, .int .i64 7200] 23)) := ((Below.refl _ w).alloc (Nat.le_refl _) _).alloc (by simp) _
  refine ⟨But.of_below hB (Nat.le_of_lt h.lt), h.keep hB, heap_old (heap_new w _) _, ?_⟩
  have := heap_new (w.alloc (.cells #[.int .i64 0, .int .i64 0, .int .i64 0, .int .i64 0, .int .i64 0] 23)) (.cells #[.int .i64 2, .int .i64 0, .int .i64 0, .int .i64 0, .int .i64 7200] 23)
  rwa [hz] at this
set_option maxHeartbeats 1000000 in
set_option maxRecDepth 100000 in
theorem rf_date (b : Nat) (l : List UInt8) (hl : l.length ≤ 1000000) (q : Bool) (w : World) (h : RfAt w b l q) :
    Calls Tryz.prog 32 #[.pointer (some ⟨b, 0, none⟩)] w (DfPost w b (dateG rfF l) q) := by
  have hlt := h.lt
  have HI := Lib.hid (Rfi.start w b l q h)
  have CJ := Lib.hid (fun w2 h2 => rf_next 74 b l hl q w2 h2)
  have CM := Lib.hid (fun w2 h2 => rf_next 77 b l hl q w2 h2)
  unfold RfPost at CJ CM
  have hcs := head_cases rfF l
  have HDL := Lib.hid (head_le rfF l)
  have HDT := Lib.hid (show dateG rfF l = timeG (headG rfF l).kind (rfF.v (headG rfF l).l) (headG rfF l).month (headG rfF l).week (nuR (headG rfF l).l) ((headG rfF l).b || rfF.b (headG rfF l).l) from rfl)
  obtain ⟨H, hH⟩ : ∃ H, headG rfF l = H := ⟨_, rfl⟩
  obtain ⟨D, hD⟩ : ∃ D, dateG rfF l = D := ⟨_, rfl⟩
  rw [hH] at hcs HDL HDT
  rw [hD] at HDT ⊢
  obtain ⟨hk, hm, hw, hll, hbb⟩ := H
  clear h hH hD
  go_enter Tryz.func32, Tryz.ntmps32
  go_wp2_with fail
  refine (CJ.out _ HI.out.rd).mono ?_
  rintro _ V0 ⟨rfl, hb, hr⟩
  have HV0 := Lib.hid (HI.out.call hlt hb hr)
  clear hb hr
  go_upto_if 6 with fail
  go_cut [6] (fun _ wx => Rfi w b hll (q || hbb) hk 0 hm hw 7200 wx)
  case first =>
    rcases hcs with ⟨n1, n2, he⟩ | ⟨n1, n2, n3, n4, he⟩ | ⟨n1, n2, n3, n4, he⟩
    · have he' := he.out
      injection he' with e1 e2 e3 e4 e5
      subst e1 e2 e3 e4 e5
      rw [n2] at HV0
      rw [n1]
      obtain ⟨⟨d0, d1, d2, d3, d4⟩, g0, g1, g2, g3, g4⟩ := HV0.out.row
      clear n1 n2
      go_wp2_with fail
      go_meet
      rw [Bool.or_false]
      exact HV0.out.set hlt 0 _ 1 0 0 0 7200 rfl
    · rw [n2] at HV0
      rw [n1]
      rw [n3, n4] at CM
      have k1 : (l.drop 1).length ≤ l.length := by rw [List.length_drop]; omega
      obtain ⟨l1, hl1⟩ : ∃ l1, l.drop 1 = l1 := ⟨_, rfl⟩
      rw [hl1] at CM he k1
      have k2 := nuR_le l1
      have k3 := nextR_le 46 (nuR l1)
      have CN := Lib.hid (fun q w h => rf_number b l1 (by omega) q w h)
      have CW := Lib.hid (fun q w h => rf_want 46 b (nuR l1) (by omega) q w h)
      obtain ⟨l3, hl3⟩ : ∃ l3, nextR 46 (nuR l1) = l3 := ⟨_, rfl⟩
      rw [hl3] at CW he k3
      have CN2 := Lib.hid (fun q w h => rf_number b l3 (by omega) q w h)
      have CW2 := Lib.hid (fun q w h => rf_want 46 b (nuR l3) (by have := nuR_le l3; omega) q w h)
      unfold RfPost at CN CW CN2 CW2
      have he' := he.out
      injection he' with e1 e2 e3 e4 e5
      subst e1 e2 e3 e4 e5
      obtain ⟨v1, hv1⟩ : ∃ v, rfF.v l1 = v := ⟨_, rfl⟩
      obtain ⟨v2, hv2⟩ : ∃ v, rfF.v l3 = v := ⟨_, rfl⟩
      rw [hv1] at CN
      rw [hv2] at CN2
      have HV1 := Lib.hid hv1
      have HV2 := Lib.hid hv2
      clear n1 n2 n3 n4 hl1 hl3 hv1 hv2
      go_wp2_with fail
      refine (CM.out _ HV0.out.rd).mono ?_
      rintro _ V2 ⟨rfl, hb, hr⟩
      have HB := Lib.hid (HV0.out.call hlt hb hr)
      obtain ⟨⟨d0, d1, d2, d3, d4⟩, g0, g1, g2, g3, g4⟩ := HB.out.row
      have HBS := Lib.hid (HB.out.set hlt 0 (.int .i64 3) 3 0 0 0 7200 rfl)
      clear hb hr
      go_wp2_with fail
      refine (CN.out q _ HBS.out.rd).mono ?_
      rintro _ V3 ⟨rfl, hb, hr⟩
      have HC := Lib.hid (HBS.out.call hlt hb hr)
      clear d0 d1 d2 d3 d4 g0 g1 g2 g3 g4
      obtain ⟨⟨d0, d1, d2, d3, d4⟩, g0, g1, g2, g3, g4⟩ := HC.out.row
      have HC2 := Lib.hid (HC.out.set hlt 2 (.int .i64 v1) 3 0 v1 0 7200 rfl)
      clear hb hr
      go_wp2_with fail
      refine (CW.out _ _ HC2.out.rd).mono ?_
      rintro _ V4 ⟨_, rfl, hb, hr⟩
      have HD := Lib.hid (HC2.out.call hlt hb hr)
      clear hb hr d0 d1 d2 d3 d4 g0 g1 g2 g3 g4
      go_wp2_with fail
      refine (CN2.out _ _ HD.out.rd).mono ?_
      rintro _ V5 ⟨rfl, hb, hr⟩
      have HF := Lib.hid (HD.out.call hlt hb hr)
      obtain ⟨⟨d0, d1, d2, d3, d4⟩, g0, g1, g2, g3, g4⟩ := HF.out.row
      have HF2 := Lib.hid (HF.out.set hlt 3 (.int .i64 v2) 3 0 v1 v2 7200 rfl)
      clear hb hr
      go_wp2_with fail
      refine (CW2.out _ _ HF2.out.rd).mono ?_
      rintro _ V6 ⟨_, rfl, hb, hr⟩
      have HG := Lib.hid (HF2.out.call hlt hb hr)
      clear hb hr d0 d1 d2 d3 d4 g0 g1 g2 g3 g4
      go_wp2_with fail
      go_meet
      rw [HV1.out, HV2.out, show (q || (rfF.b l1 || !nextB 46 (nuR l1) || rfF.b l3 || !nextB 46 (nuR l3))) = (q || rfF.b l1 || !nextB 46 (nuR l1) || rfF.b l3 || !nextB 46 (nuR l3)) by simp only [Bool.or_assoc]]
      exact HG.out
    · have he' := he.out
      injection he' with e1 e2 e3 e4 e5
      subst e1 e2 e3 e4 e5
      rw [n2] at HV0
      rw [n1]
      rw [n3, n4] at CM
      clear n1 n2 n3 n4
      go_wp2_with fail
      refine (CM.out _ HV0.out.rd).mono ?_
      rintro _ V2 ⟨rfl, hb, hr⟩
      have HB := Lib.hid (HV0.out.call hlt hb hr)
      clear hb hr
      go_wp2_with fail
      go_meet
      rw [Bool.or_false]
      exact HB.out
  case rest =>
    have HA := Lib.hid hcut
    have hz : hll.length ≤ 1000000 := Nat.le_trans HDL.out hl
    have hz2 := nuR_le hll
    have CN := Lib.hid (fun q w h => rf_number b hll hz q w h)
    have CS := Lib.hid (fun q w h => rf_next 47 b (nuR hll) (by omega) q w h)
    have CX := Lib.hid (fun q w h => rf_seconds b ((nuR hll).drop 1) (by rw [List.length_drop]; omega) q w h)
    unfold RfPost at CN CS CX
    unfold timeG at HDT
    obtain ⟨v, hv⟩ : ∃ v, rfF.v hll = v := ⟨_, rfl⟩
    obtain ⟨bv, hbv⟩ : ∃ v, rfF.b hll = v := ⟨_, rfl⟩
    rw [hv, hbv] at CN HDT
    obtain ⟨r, hr0⟩ : ∃ r, nuR hll = r := ⟨_, rfl⟩
    rw [hr0] at CN CS CX HDT
    have hn : (nextB 47 r = true ∧ nextR 47 r = r.drop 1) ∨ (nextB 47 r = false ∧ nextR 47 r = r) := by
      unfold nextR
      cases h : nextB 47 r
      · right; exact ⟨rfl, rfl⟩
      · left; exact ⟨rfl, rfl⟩
    clear hcut hcs hv hbv hr0 CJ CM
    go_wp2_with fail
    refine (CN.out _ _ HA.out.rd).mono ?_
    rintro _ V ⟨rfl, hb, hr⟩
    have HB := Lib.hid (HA.out.call hlt hb hr)
    obtain ⟨⟨d0, d1, d2, d3, d4⟩, g0, g1, g2, g3, g4⟩ := HB.out.row
    have HB2 := Lib.hid (HB.out.set hlt 1 (.int .i64 v) hk v hm hw 7200 rfl)
    clear hb hr
    go_wp2_with fail
    refine (CS.out _ _ HB2.out.rd).mono ?_
    rintro _ V2 ⟨rfl, hb, hr⟩
    have HC := Lib.hid (HB2.out.call hlt hb hr)
    clear hb hr d0 d1 d2 d3 d4 g0 g1 g2 g3 g4
    rcases hn with ⟨n1, n2⟩ | ⟨n1, n2⟩
    · rw [n1, if_pos rfl] at HDT
      rw [n2] at HC
      rw [n1]
      clear n1 n2
      go_wp2_with fail
      refine (CX.out _ _ HC.out.rd).mono ?_
      rintro _ V3 ⟨rfl, hb, hr⟩
      have HF := Lib.hid (HC.out.call hlt hb hr)
      clear hb hr
      obtain ⟨sv, hsv⟩ : ∃ s, scV (r.drop 1) = s := ⟨_, rfl⟩
      rw [hsv] at HDT ⊢
      obtain ⟨⟨d0, d1, d2, d3, d4⟩, g0, g1, g2, g3, g4⟩ := HF.out.row
      obtain ⟨⟨r0, r1, r2, r3, r4⟩, f0, f1, f2, f3, f4⟩ := HF.out.rrow
      clear hsv
      go_wp2_with fail
      refine bodyPost_ret (v := .agg #[.int .i64 hk, .int .i64 v, .int .i64 hm, .int .i64 hw, .int .i64 sv]) (by simp [results, Tryz.results32, go_sem, r0, r1, r2, r3, r4]) rfl ?_
      have hf := ((((((⟨HF.out.but, HF.out.rd⟩ : RfB w b _ _ V3).set hlt (w.heap.size + 1) 4 (by omega) (.int .i64 sv)).set hlt w.heap.size 0 (Nat.le_refl _) (.int .i64 hk)).set hlt w.heap.size 1 (Nat.le_refl _) (.int .i64 v)).set hlt w.heap.size 2 (Nat.le_refl _) (.int .i64 hm)).set hlt w.heap.size 3 (Nat.le_refl _) (.int .i64 hw)).set hlt w.heap.size 4 (Nat.le_refl _) (.int .i64 sv)
      refine ⟨by rw [HDT.out]; rfl, hf.but, ?_⟩
      rw [HDT.out]
      dsimp only
      rw [show (q || (hbb || bv || scB (r.drop 1))) = (q || hbb || bv || scB (r.drop 1)) by simp only [Bool.or_assoc]]
      exact hf.rd
    · rw [n1, if_neg (by decide)] at HDT
      rw [n2] at HC
      rw [n1]
      obtain ⟨⟨d0, d1, d2, d3, d4⟩, g0, g1, g2, g3, g4⟩ := HC.out.row
      obtain ⟨⟨r0, r1, r2, r3, r4⟩, f0, f1, f2, f3, f4⟩ := HC.out.rrow
      clear n1 n2
      go_wp2_with fail
      refine bodyPost_ret (v := .agg #[.int .i64 hk, .int .i64 v, .int .i64 hm, .int .i64 hw, .int .i64 7200]) (by simp [results, Tryz.results32, go_sem, r0, r1, r2, r3, r4]) rfl ?_
      have hf := (((((⟨HC.out.but, HC.out.rd⟩ : RfB w b _ _ V2).set hlt w.heap.size 0 (Nat.le_refl _) (.int .i64 hk)).set hlt w.heap.size 1 (Nat.le_refl _) (.int .i64 v)).set hlt w.heap.size 2 (Nat.le_refl _) (.int .i64 hm)).set hlt w.heap.size 3 (Nat.le_refl _) (.int .i64 hw)).set hlt w.heap.size 4 (Nat.le_refl _) (.int .i64 7200)
      refine ⟨by rw [HDT.out]; rfl, hf.but, ?_⟩
      rw [HDT.out]
      dsimp only
      rw [show (q || (hbb || bv)) = (q || hbb || bv) by simp only [Bool.or_assoc]]
      exact hf.rd
end Go.Proofs.YtgllbagmmpicaaaGreatDoor.Px
