/- The examples of chapter 45 hold: analemmalaw45.works returns true. The examples of chapter 45 hold: analemmalaw45.works returns true. The law LookupTables returns true for every table and instant: the walk. -/
import Derived.Test.YtlaplgaccjmbhaaGreatDoorRJO
namespace Go.Proofs.YtlaplgaccjmbhaaGreatDoor.Px
open Go.RowKit
open Tb
def exF : List UInt8 := [67, 69, 84, 45, 49, 67, 69, 83, 84, 44, 77, 51, 46, 53, 46, 48, 44, 77, 49, 48, 46, 53, 46, 48, 47, 51]
def exT : Tab := ⟨[⟨1000, false, bs [76, 77, 84]⟩, ⟨3600, false, bs [67, 69, 84]⟩, ⟨7200, true, bs [67, 69, 83, 84]⟩], [⟨0, 1⟩, ⟨100, 2⟩, ⟨200, 1⟩], exF⟩
def ex9 : List (Int × Nat × Nat) := [(-36028797018963968, 0, 0), (-1, 0, 0), (0, 1, 1), (99, 1, 1), (100, 2, 2), (150, 2, 2), (200, 3, 1), (1711846800, 3, 2), (1711846799, 3, 1)]
theorem ex_all : ex9.all (fun c => decide (idxE exT c.1 = (c.2.1, 0)) && decide (lookL exT c.1 = (exT.types.getD c.2.2 Lc.zero, 0))) = true := by kernel_rfl
theorem ex_last : idxE exT 36028797018963968 = (3, 0) := by kernel_rfl
theorem ex_far : (lookL exT 36028797018963969).2 = 3 := by kernel_rfl
theorem ex_bad : (lookL ⟨exT.types, exT.trans, [67, 69, 84]⟩ 0).2 = 2 := by kernel_rfl
def exC1 : Array Value := #[.int .i64 1000, .bool false, .string ⟨#[76, 77, 84]⟩, .int .i64 3600, .bool false, .string ⟨#[67, 69, 84]⟩, .int .i64 7200, .bool true, .string ⟨#[67, 69, 83, 84]⟩]
def exC2 : Array Value := #[.int .i64 0, .int .i64 1, .int .i64 100, .int .i64 2, .int .i64 200, .int .i64 1]
def exX (f : List UInt8) (n : Nat) : Array Value := #[.slice (some ⟨n + 1, 0, none⟩) 3 3, .slice (some ⟨n + 2, 0, none⟩) 3 3, .string (bs f)]
theorem ex_any (W : World) : Calls Tryz.prog 43 #[] W fun e w' =>
    e = .returned (.agg (exX exF W.heap.size)) ∧ Kp [(W.heap.size + 2, .cells exC2 59 (0, 0)), (W.heap.size + 1, .cells exC1 28 (0, 0)), (W.heap.size, .cells (exX exF W.heap.size) 25 (0, 0))] [] W w' := by
  have K0 := Lib.hid ((((Kp.start W).alloc (.cells (exX exF W.heap.size) 25)).allocAt (W.heap.size + 1) (by simp) (.cells exC1 28)).allocAt (W.heap.size + 2) (by simp) (.cells exC2 59))
  go_enter Tryz.func43, Tryz.ntmps43
  go_wp2_with fail
  refine bodyPost_ret (v := .agg (exX exF W.heap.size)) (by simp [results, Tryz.results43, go_sem, exX]; rfl) rfl ⟨rfl, ?_⟩
  exact K0.out
/-- the table of the example in memory, with some footer -/
theorem ex_tab {n : Nat} {X : World} (h1 : X.heap[n + 1]? = some (.cells exC1 28 (0, 0))) (h2 : X.heap[n + 2]? = some (.cells exC2 59 (0, 0))) (f : List UInt8) :
    TabV X (.slice (some ⟨n + 1, 0, none⟩) 3 3) (.slice (some ⟨n + 2, 0, none⟩) 3 3) (bs f) ⟨exT.types, exT.trans, f⟩ :=
  ⟨SlV.of_block h1 (sz := 3) (n := 3) (c := 3) (by omega) (by unfold maxLen; omega) (by decide), SlV.of_block h2 (sz := 2) (n := 3) (c := 3) (by omega) (by unfold maxLen; omega) (by decide), rfl,
   (by intro l hl; have : l = ⟨1000, false, bs [76, 77, 84]⟩ ∨ l = ⟨3600, false, bs [67, 69, 84]⟩ ∨ l = ⟨7200, true, bs [67, 69, 83, 84]⟩ := by simpa [exT] using hl
       rcases this with rfl | rfl | rfl <;> exact ⟨by decide, by decide⟩),
   (by intro l hl; have : l = ⟨0, 1⟩ ∨ l = ⟨100, 2⟩ ∨ l = ⟨200, 1⟩ := by simpa [exT] using hl
       rcases this with rfl | rfl | rfl <;> exact ⟨by decide, by decide⟩)⟩
def exC9 : Array Value := #[.int .i64 (-36028797018963968), .int .i64 0, .int .i64 0, .int .i64 (-1), .int .i64 0, .int .i64 0, .int .i64 0, .int .i64 1, .int .i64 1, .int .i64 99, .int .i64 1, .int .i64 1, .int .i64 100, .int .i64 2, .int .i64 2, .int .i64 150, .int .i64 2, .int .i64 2, .int .i64 200, .int .i64 3, .int .i64 1, .int .i64 1711846800, .int .i64 3, .int .i64 2, .int .i64 1711846799, .int .i64 3, .int .i64 1]
/-- one of the examples -/
theorem ex_row {b : Nat} {X : World} {T : TypeId} (h : X.heap[b]? = some (.cells exC9 T (0, 0))) {k : Nat} (hk : k < 9) : ∃ (t : Int) (n c : Nat), X.cell? ⟨b, k * 3, none⟩ = some (.int .i64 t) ∧ X.cell? ⟨b, k * 3 + 1, none⟩ = some (.int .i64 n) ∧ X.cell? ⟨b, k * 3 + 2, none⟩ = some (.int .i64 c) ∧
    -9223372036854775808 ≤ t ∧ t ≤ 9223372036854775807 ∧ c < 3 ∧ n ≤ 3 ∧ idxE exT t = (n, 0) ∧ lookL exT t = (exT.types.getD c Lc.zero, 0) := by
  have key : ∀ (k : Nat) (t : Int) (n c : Nat), ex9[k]? = some (t, n, c) → idxE exT t = (n, 0) ∧ lookL exT t = (exT.types.getD c Lc.zero, 0) := by
    intro k t n c hm
    have := List.all_eq_true.1 ex_all _ (List.mem_of_getElem? hm)
    simpa using this
  rcases (show k = 0 ∨ k = 1 ∨ k = 2 ∨ k = 3 ∨ k = 4 ∨ k = 5 ∨ k = 6 ∨ k = 7 ∨ k = 8 by omega) with rfl | rfl | rfl | rfl | rfl | rfl | rfl | rfl | rfl
  · exact ⟨-36028797018963968, 0, 0, cells_at h _, cells_at h _, cells_at h _, by omega, by omega, by omega, by omega, key 0 _ _ _ rfl⟩
  · exact ⟨-1, 0, 0, cells_at h _, cells_at h _, cells_at h _, by omega, by omega, by omega, by omega, key 1 _ _ _ rfl⟩
  · exact ⟨0, 1, 1, cells_at h _, cells_at h _, cells_at h _, by omega, by omega, by omega, by omega, key 2 _ _ _ rfl⟩
  · exact ⟨99, 1, 1, cells_at h _, cells_at h _, cells_at h _, by omega, by omega, by omega, by omega, key 3 _ _ _ rfl⟩
  · exact ⟨100, 2, 2, cells_at h _, cells_at h _, cells_at h _, by omega, by omega, by omega, by omega, key 4 _ _ _ rfl⟩
  · exact ⟨150, 2, 2, cells_at h _, cells_at h _, cells_at h _, by omega, by omega, by omega, by omega, key 5 _ _ _ rfl⟩
  · exact ⟨200, 3, 1, cells_at h _, cells_at h _, cells_at h _, by omega, by omega, by omega, by omega, key 6 _ _ _ rfl⟩
  · exact ⟨1711846800, 3, 2, cells_at h _, cells_at h _, cells_at h _, by omega, by omega, by omega, by omega, key 7 _ _ _ rfl⟩
  · exact ⟨1711846799, 3, 1, cells_at h _, cells_at h _, cells_at h _, by omega, by omega, by omega, by omega, key 8 _ _ _ rfl⟩
end Go.Proofs.YtlaplgaccjmbhaaGreatDoor.Px
namespace Go.Proofs.YtlaplgaccjmbhaaGreatDoor.Px
open Go.RowKit
open Tb
theorem ex_cells {b : Nat} {X : World} (h : X.heap[b]? = some (.cells exC1 28 (0, 0))) {c : Nat} {o : Int} {d : Bool} {a : ByteArray} (hc : exT.types[c]? = some ⟨o, d, a⟩) :
    X.cell? ⟨b, c * 3, none⟩ = some (.int .i64 o) ∧ X.cell? ⟨b, c * 3 + 1, none⟩ = some (.bool d) ∧ X.cell? ⟨b, c * 3 + 2, none⟩ = some (.string a) := by
  have hS : LcV X (.slice (some ⟨b, 0, none⟩) 3 3) exT.types := SlV.of_block h (sz := 3) (n := 3) (c := 3) (by omega) (by unfold maxLen; omega) (by decide)
  obtain ⟨b', o', cc, e1, _, _, _, hcell⟩ := hS.all (by decide)
  simp only [Value.slice.injEq, Option.some.injEq, Addr.mk.injEq] at e1
  obtain ⟨⟨rfl, rfl, _⟩, _, rfl⟩ := e1
  have := hcell c _ hc
  simpa only [Nat.zero_add] using this
set_option maxHeartbeats 8000000 in
set_option maxRecDepth 100000 in
theorem works45_any (W : World) (hE : EnvAt W) : Calls Tryz.prog 15 #[] W fun e w' => e = .returned (.bool true) ∧ Below W.heap.size W w' := by
  have HE := Lib.hid hE
  have CE := Lib.hid (fun w => ex_any w)
  unfold exX at CE
  have CI := Lib.hid (fun t w h hE => index_any' exT (.slice (some ⟨W.heap.size + 1, 0, none⟩) 3 3) (.slice (some ⟨W.heap.size + 2, 0, none⟩) 3 3) (bs exF) t w h hE (by decide))
  have CA := Lib.hid (fun t w h hE => look_any exT (.slice (some ⟨W.heap.size + 1, 0, none⟩) 3 3) (.slice (some ⟨W.heap.size + 2, 0, none⟩) 3 3) (bs exF) t w h hE (by decide))
  have CB := Lib.hid (fun w h hE => look_any ⟨exT.types, exT.trans, [67, 69, 84]⟩ (.slice (some ⟨W.heap.size + 1, 0, none⟩) 3 3) (.slice (some ⟨W.heap.size + 2, 0, none⟩) 3 3) (bs [67, 69, 84]) 0 w h hE (by decide))
  obtain ⟨⟨⟨ao, ad, aa⟩, ae⟩, hA⟩ : ∃ A, lookL exT 36028797018963969 = A := ⟨_, rfl⟩
  have hae := ex_far
  rw [hA] at hae
  dsimp only at hae
  subst hae
  obtain ⟨⟨⟨bo, bd, ba⟩, be⟩, hB⟩ : ∃ A, lookL ⟨exT.types, exT.trans, [67, 69, 84]⟩ 0 = A := ⟨_, rfl⟩
  have hbe := ex_bad
  rw [hB] at hbe
  dsimp only at hbe
  subst hbe
  rw [hB] at CB
  have HA := Lib.hid hA
  unfold Lc.val at CB
  dsimp only at CB
  rw [show bs [67, 69, 84] = ⟨#[67, 69, 84]⟩ from rfl] at CB
  have HF : Hid (bs exF = ⟨#[67, 69, 84, 45, 49, 67, 69, 83, 84, 44, 77, 51, 46, 53, 46, 48, 44, 77, 49, 48, 46, 53, 46, 48, 47, 51]⟩) := Lib.hid rfl
  clear hE hA hB
  go_enter Tryz.func15, Tryz.ntmps15
  go_wp2_with fail
  refine (CE.out _).mono ?_
  rintro _ V ⟨rfl, hK⟩
  have K1 := Lib.hid hK
  clear hK
  obtain ⟨fx, hfx⟩ : ∃ f, bs exF = f := ⟨_, rfl⟩
  rw [hfx] at K1 CI CA HF ⊢
  have HFX := Lib.hid hfx
  clear hfx
  have K3 := Lib.hid ((K1.out.alloc (.cells #[.slice (some ⟨W.heap.size + 1, 0, none⟩) 3 3, .slice (some ⟨W.heap.size + 2, 0, none⟩) 3 3, .string fx] 25)).allocAt (V.heap.size + 1) (by simp) (.cells exC9 89))
  go_wp2_with fail
  go_loopw [3, 4, 5, 6, 7, 26] (fun _ _ _ _ _ i26 wr => ∃ k : Nat, k ≤ 9 ∧ i26 = .int .i64 k ∧ Kp [(V.heap.size + 1, .cells exC9 89), (V.heap.size, .cells #[.slice (some ⟨W.heap.size + 1, 0, none⟩) 3 3, .slice (some ⟨W.heap.size + 2, 0, none⟩) 3 3, .string fx] 25), (W.heap.size + 2, .cells exC2 59), (W.heap.size + 1, .cells exC1 28)] [] W wr) (fun _ _ _ _ _ i26 _ => 9 - (intOf i26).toNat)
  case atStart => exact ⟨0, by omega, rfl, K3.out.pick (by simp)⟩
  case round =>
    obtain ⟨k, hk, rfl, hK⟩ := hrel
    have HK := Lib.hid hK
    clear hK K1 K3
    by_cases hlt : k < 9
    · obtain ⟨t, n, c, q0, q1, q2, t0, t1, hc, hn, h1, h2⟩ := ex_row (HK.out.at 0 rfl) hlt
      have CI1 := CI.out t
      rw [h1] at CI1
      have CI2 := Lib.hid CI1
      have CA1 := CA.out t
      rw [h2] at CA1
      obtain ⟨y, hy⟩ : ∃ y, exT.types[c]? = some y := ⟨_, List.getElem?_eq_getElem hc⟩
      rw [show exT.types.getD c Lc.zero = y by simp [List.getD, hy]] at CA1
      have HY := Lib.hid hy
      obtain ⟨yo, yd, ya⟩ := y
      unfold Lc.val at CA1
      dsimp only at CA1
      have CA2 := Lib.hid CA1
      have TB := Lib.hid (fun (X : World) h1 h2 => (HFX.out ▸ ex_tab (X := X) (n := W.heap.size) h1 h2 exF : TabV X (.slice (some ⟨W.heap.size + 1, 0, none⟩) 3 3) (.slice (some ⟨W.heap.size + 2, 0, none⟩) 3 3) fx exT))
      clear h1 h2 hy CI1 CA1
      have KA := Lib.hid (HK.out.alloc (.cells #[.int .i64 t, .int .i64 n, .int .i64 c] 89))
      obtain ⟨⟨x0, x1, x2⟩, _, _, _⟩ := row3 (HK.out.at 1 rfl)
      have z0 := HK.out.lt 0 rfl
      have z1 := HK.out.lt 1 rfl
      go_wp2_with fail
      refine (CI2.out _ (TB.out _ (KA.out.at 4 rfl) (KA.out.at 3 rfl)) (HE.out.keep KA.out.below)).mono ?_
      rintro _ V2 ⟨rfl, hb⟩
      have KB := Lib.hid (KA.out.keep hb)
      clear hb q0 q1 q2 x0 x1 x2 z0 z1
      obtain ⟨⟨x0, x1, x2⟩, _, _, _⟩ := row3 (KB.out.at 2 rfl)
      obtain ⟨⟨y0, y1, y2⟩, _, _, _⟩ := row3 (KB.out.at 0 rfl)
      go_wp2_with fail
      refine (CA2.out _ (TB.out _ (KB.out.at 4 rfl) (KB.out.at 3 rfl)) (HE.out.keep KB.out.below)).mono ?_
      rintro _ V3 ⟨rfl, hb⟩
      have KC := Lib.hid (KB.out.keep hb)
      have KD := Lib.hid (KC.out.alloc (.cells #[.int .i64 yo, .bool yd, .string ya] 28))
      clear hb x0 x1 x2 y0 y1 y2
      obtain ⟨⟨x0, x1, x2⟩, _, _, _⟩ := row3 (KC.out.at 2 rfl)
      obtain ⟨⟨y0, y1, y2⟩, _, _, _⟩ := row3 (KC.out.at 0 rfl)
      have z0 := KC.out.lt 0 rfl
      have z1 := KC.out.lt 2 rfl
      have z2 := KC.out.lt 4 rfl
      obtain ⟨c0, c1, c2⟩ := ex_cells (KC.out.at 4 rfl) HY.out
      have hc' : (c : Int) < 3 := by omega
      go_upto_region 7 with fail
      go_quiet (fail)
      go_wp2_with fail
      go_roundw
      case rel => exact ⟨k + 1, by omega, by go_num, (KD.out.drop.drop).call (Civ.below_drewN (Below.refl _ _) _) rfl rfl rfl rfl⟩
      case measure => simp [intOf]; omega
    · obtain rfl : k = 9 := by omega
      have TB := Lib.hid (fun (X : World) h1 h2 => (HFX.out ▸ ex_tab (X := X) (n := W.heap.size) h1 h2 exF : TabV X (.slice (some ⟨W.heap.size + 1, 0, none⟩) 3 3) (.slice (some ⟨W.heap.size + 2, 0, none⟩) 3 3) fx exT))
      have TC := Lib.hid (fun (X : World) h1 h2 => (ex_tab (X := X) (n := W.heap.size) h1 h2 [67, 69, 84] : TabV X (.slice (some ⟨W.heap.size + 1, 0, none⟩) 3 3) (.slice (some ⟨W.heap.size + 2, 0, none⟩) 3 3) ⟨#[67, 69, 84]⟩ ⟨exT.types, exT.trans, [67, 69, 84]⟩))
      have CI1 := CI.out 36028797018963968
      rw [ex_last] at CI1
      have CI2 := Lib.hid CI1
      have CA1 := CA.out 36028797018963969
      rw [HA.out] at CA1
      unfold Lc.val at CA1
      dsimp only at CA1
      have CA2 := Lib.hid CA1
      clear CI1 CA1
      obtain ⟨⟨x0, x1, x2⟩, _, _, _⟩ := row3 (HK.out.at 1 rfl)
      go_wp2_with fail
      refine (CI2.out _ (TB.out _ (HK.out.at 3 rfl) (HK.out.at 2 rfl)) (HE.out.keep HK.out.below)).mono ?_
      rintro _ V2 ⟨rfl, hb⟩
      have KB := Lib.hid (HK.out.keep hb)
      clear hb x0 x1 x2
      obtain ⟨⟨x0, x1, x2⟩, _, _, _⟩ := row3 (KB.out.at 1 rfl)
      go_wp2_with fail
      refine (CA2.out _ (TB.out _ (KB.out.at 3 rfl) (KB.out.at 2 rfl)) (HE.out.keep KB.out.below)).mono ?_
      rintro _ V3 ⟨rfl, hb⟩
      have KC := Lib.hid (KB.out.keep hb)
      have KD := Lib.hid ((KC.out.set 1 rfl 2 (.string ⟨#[67, 69, 84]⟩) rfl).allocAt V3.heap.size (by simp) (.cells #[.int .i64 ao, .bool ad, .string aa] 28))
      clear hb x0 x1 x2
      obtain ⟨⟨x0, x1, x2⟩, s0, s1, s2⟩ := row3 (KC.out.at 1 rfl)
      have z0 := KC.out.lt 1 rfl
      go_wp2_with fail
      refine (CB.out _ (TC.out _ (KD.out.at 4 rfl) (KD.out.at 3 rfl)) (HE.out.keep KD.out.below)).mono ?_
      rintro _ V4 ⟨rfl, hb⟩
      have KE := Lib.hid ((KD.out.keep hb).alloc (.cells #[.int .i64 bo, .bool bd, .string ba] 28))
      clear hb x0 x1 x2 s0 s1 s2 z0
      go_wp2_with fail
      go_ret
      exact ⟨rfl, KE.out.below⟩
end Go.Proofs.YtlaplgaccjmbhaaGreatDoor.Px
namespace Go.Proofs.YtlaplgaccjmbhaaGreatDoor.Px
open Go.RowKit
open Tb
set_option maxHeartbeats 8000000 in
set_option maxRecDepth 100000 in
theorem lookupTables_cells (x : Tab) (tv rv : Value) (f : ByteArray) (t : Int) (ht : (Lit.int .i64 t).wf = true) (W : World) (h : TabV W tv rv f x) (hE : EnvAt W) (hfs : f.size ≤ maxLen) :
    Calls Tryz.prog 3 #[.agg #[tv, rv, .string f], .int .i64 t] W fun e w' => e = .returned (.bool true) ∧ Below W.heap.size W w' := by
  have CW := Lib.hid (fun w hE => works45_any w hE)
  have CA := Lib.hid (fun w h hE hm => look_any x tv rv f t w h hE hm)
  have CB := Lib.hid (fun w h => rlook_any x tv rv f t w h)
  have CI := Lib.hid (fun w h hE hm => index_any' x tv rv f t w h hE hm)
  have CJ := Lib.hid (fun w h => rindex_any x tv rv f t w h)
  obtain ⟨ta, tc, htv, t1, t2⟩ := h.types.slice
  obtain ⟨ra, rc, hrv, r1, r2⟩ := h.trans.slice
  obtain ⟨n, hn⟩ : ∃ n, x.types.length = n := ⟨_, rfl⟩
  obtain ⟨N, hN⟩ : ∃ n, x.trans.length = n := ⟨_, rfl⟩
  rw [hn] at htv t1
  rw [hN] at hrv r1
  subst htv hrv
  unfold maxLen at t2 r2 hfs
  have K0 := Lib.hid ((Kp.start W).alloc (.cells #[.slice ta n tc, .slice ra N rc, .string f] 25))
  have HT := Lib.hid h
  have HE := Lib.hid hE
  have HN := Lib.hid hN
  obtain ⟨b0, b1⟩ := bounds_i64 ht
  clear h hE hn hN ht
  by_cases hbig : 20 < n ∨ 60 < N ∨ 200 < f.size
  · clear CA CB CI CJ
    rcases (show 20 < n ∨ (¬ 20 < n ∧ 60 < N) ∨ (¬ 20 < n ∧ ¬ 60 < N ∧ 200 < f.size) by omega) with h1 | ⟨h1, h2⟩ | ⟨h1, h2, h3⟩
    · have i1 : (20 : Int) < (n : Int) := by omega
      go_enter Tryz.func3, Tryz.ntmps3
      go_wp2_with fail
      refine (CW.out _ (HE.out.keep K0.out.below)).mono ?_
      rintro _ V ⟨rfl, hb⟩
      have K1 := Lib.hid (K0.out.keep hb)
      clear hb
      go_wp2_with fail
      go_ret
      exact ⟨rfl, K1.out.below⟩
    · have i1 : ¬ (20 : Int) < (n : Int) := by omega
      have i2 : (60 : Int) < (N : Int) := by omega
      go_enter Tryz.func3, Tryz.ntmps3
      go_wp2_with fail
      refine (CW.out _ (HE.out.keep K0.out.below)).mono ?_
      rintro _ V ⟨rfl, hb⟩
      have K1 := Lib.hid (K0.out.keep hb)
      clear hb
      go_wp2_with fail
      go_ret
      exact ⟨rfl, K1.out.below⟩
    · have i1 : ¬ (20 : Int) < (n : Int) := by omega
      have i2 : ¬ (60 : Int) < (N : Int) := by omega
      have i3 : (200 : Int) < (f.size : Int) := by omega
      go_enter Tryz.func3, Tryz.ntmps3
      go_wp2_with fail
      refine (CW.out _ (HE.out.keep K0.out.below)).mono ?_
      rintro _ V ⟨rfl, hb⟩
      have K1 := Lib.hid (K0.out.keep hb)
      clear hb
      go_wp2_with fail
      go_ret
      exact ⟨rfl, K1.out.below⟩
  have i1 : ¬ (20 : Int) < (n : Int) := by omega
  have i2 : ¬ (60 : Int) < (N : Int) := by omega
  have i3 : ¬ (200 : Int) < (f.size : Int) := by omega
  have HM := Lib.hid (show x.trans.length ≤ 1000000000000 by rw [HN.out]; omega)
  obtain ⟨⟨⟨lo, ld, la⟩, le⟩, hA⟩ : ∃ A, lookL x t = A := ⟨_, rfl⟩
  obtain ⟨⟨I, ie⟩, hI⟩ : ∃ A, idxE x t = A := ⟨_, rfl⟩
  rw [hA] at CA CB
  rw [hI] at CI CJ
  unfold Lc.val at CA CB
  dsimp only at CA CB CI CJ
  clear hA hI hbig
  go_enter Tryz.func3, Tryz.ntmps3
  go_wp2_with fail
  refine (CA.out _ (HT.out.keep K0.out.below) (HE.out.keep K0.out.below) HM.out).mono ?_
  rintro _ V ⟨rfl, hb⟩
  have K1 := Lib.hid (K0.out.keep hb)
  have K2 := Lib.hid (K1.out.alloc (.cells #[.int .i64 lo, .bool ld, .string la] 28))
  obtain ⟨⟨x0, x1, x2⟩, _, _, _⟩ := row3 (K1.out.at 0 rfl)
  have z0 := K1.out.lt 0 rfl
  clear hb
  go_wp2_with fail
  refine (CB.out _ (HT.out.keep K2.out.below)).mono ?_
  rintro _ V2 ⟨rfl, hb⟩
  have K3 := Lib.hid (K2.out.keep hb)
  have K4 := Lib.hid (K3.out.alloc (.cells #[.int .i64 lo, .bool ld, .string la] 28))
  clear hb x0 x1 x2 z0
  obtain ⟨⟨x0, x1, x2⟩, _, _, _⟩ := row3 (K3.out.at 1 rfl)
  have z0 := K3.out.lt 1 rfl
  go_wp2_with fail
  refine (CI.out _ (HT.out.keep K4.out.below) (HE.out.keep K4.out.below) HM.out).mono ?_
  rintro _ V3 ⟨rfl, hb⟩
  have K5 := Lib.hid (K4.out.keep hb)
  clear hb x0 x1 x2 z0
  obtain ⟨⟨x0, x1, x2⟩, _, _, _⟩ := row3 (K5.out.at 2 rfl)
  go_wp2_with fail
  refine (CJ.out _ (HT.out.keep K5.out.below)).mono ?_
  rintro _ V4 ⟨rfl, hb⟩
  have K6 := Lib.hid (K5.out.keep hb)
  clear hb x0 x1 x2
  obtain ⟨⟨x0, x1, x2⟩, _, _, _⟩ := row3 (K6.out.at 0 rfl)
  obtain ⟨⟨y0, y1, y2⟩, _, _, _⟩ := row3 (K6.out.at 1 rfl)
  go_wp2_with fail
  refine (CW.out _ (HE.out.keep K6.out.below)).mono ?_
  rintro _ V5 ⟨rfl, hb⟩
  have K7 := Lib.hid (K6.out.keep hb)
  clear hb
  go_wp2_with fail
  go_ret
  exact ⟨rfl, K7.out.below⟩
end Go.Proofs.YtlaplgaccjmbhaaGreatDoor.Px

