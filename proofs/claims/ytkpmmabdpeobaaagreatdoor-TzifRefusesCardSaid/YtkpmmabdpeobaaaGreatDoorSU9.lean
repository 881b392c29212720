/- The methods seconds, number and date of posix.reader. The function posix.Parse: a string is read as the document says. -/
import Derived.Test.YtkpmmabdpeobaaaGreatDoorSU7
import Derived.Test.YtkpmmabdpeobaaaGreatDoorSU8
import Derived.Deep.CutBlock
import Derived.Deep.DeepCutAuto
import Derived.Outline
namespace Go.Proofs.YtkpmmabdpeobaaaGreatDoor.Px
open Go.RowKit
open Civ
open Off (run past digQ parseO parsePost off_parse dec dec_lib)
def secs12 : ByteArray := ⟨#[45, 58, 48, 49, 50, 51, 52, 53, 54, 55, 56, 57]⟩
theorem contains_sec (c : UInt8) : secs12.data.toList.contains c = secQ c :=
 eq_of_beq (every_byte (fun c => secs12.data.toList.contains c == secQ c) (by kernel_rfl) c)
theorem contains_dig (c : UInt8) : Off.digs10.data.toList.contains c = digQ c :=
 eq_of_beq (every_byte (fun c => Off.digs10.data.toList.contains c == digQ c) (by kernel_rfl) c)
theorem run_len (p : UInt8 → Bool) (l : List UInt8) : (run p l).length ≤ l.length := by
 have h := congrArg List.length (run_past p l)
 rw [List.length_append] at h; omega
set_option maxHeartbeats 1000000 in
set_option maxRecDepth 100000 in
theorem rd_seconds (b : Nat) (l : List UInt8) (hl : l.length ≤ 1000000) (q : Bool) (w : World) (h : RdAt w b l q) (hE : EnvAt w) (ht : top ≤ b) :
 Calls Tryz.prog 50 #[.pointer (some ⟨b, 0, none⟩)] w (RdPost w b (.int .i64 (scV l)) (scR l) (q || scB l)) := by
 have CR := Lib.hid (run_any secQ secs12 (by decide) contains_sec (ascii_of_all (by decide)) b l hl q)
 have CP := Lib.hid (fun w hE => off_parse (bs (run secQ l)) (by rw [bs_size]; exact Nat.le_trans (run_len _ _) hl) w hE)
 unfold RdPost at CR
 unfold parsePost at CP
 rw [bs_list] at CP
 unfold scV scR scB
 obtain ⟨x, hx⟩ : ∃ x, (parseO (run secQ l)).1 = x := ⟨_, rfl⟩
 obtain ⟨e, he⟩ : ∃ e, (parseO (run secQ l)).2 = e := ⟨_, rfl⟩
 rw [hx, he] at CP
 rw [hx, he]
 obtain ⟨s, hs⟩ : ∃ s, bs (run secQ l) = s := ⟨_, rfl⟩
 rw [hs] at CR CP
 have HR := Lib.hid h
 have HE := Lib.hid hE
 clear h hE hx he hs
 go_enter Tryz.func50, Tryz.ntmps50
 go_wp2_with fail
 refine (CR.out _ HR.out).mono ?_
 rintro _ V ⟨rfl, hb, hr⟩
 have HB := Lib.hid hb
 have HV := Lib.hid hr
 have HEV := Lib.hid (HE.out.low (hb.low ht))
 clear hb hr
 go_wp2_with fail
 refine (CP.out _ HEV.out).mono ?_
 rintro _ V2 ⟨rfl, hb⟩
 have HB2 := Lib.hid (HB.out.trans (But.of_below hb (Nat.le_of_lt HV.out.lt)))
 have HV2 := Lib.hid (HV.out.keep hb)
 obtain ⟨⟨d0, d1⟩, g0, g1⟩ := (HV.out.keep hb).row
 clear hb
 cases q
 · by_cases he : e = 0
   · subst he
     go_wp2_with fail
     go_ret
     exact ⟨rfl, HB2.out.trans (But.set _ _ _), HV2.out.setB _⟩
   · have t0 : (e != 0) = true := by rw [bne_iff_ne]; exact he
     go_wp2_with fail
     go_ret
     exact ⟨rfl, HB2.out.trans (But.set _ _ _), by rw [decide_eq_true he]; exact HV2.out.setB _⟩
 · go_wp2_with fail
   go_ret
   exact ⟨rfl, HB2.out.trans (But.set _ _ _), HV2.out.setB _⟩
theorem itoa_any (x : Int) (h0 : -9223372036854775808 ≤ x) (h1 : x ≤ 9223372036854775807) (w : World) (hE : EnvAt w) :
 Calls Tryz.prog 145 #[.int .i64 x] w fun e w' => e = .returned (.string (bs (Lib.itoa x))) ∧ Below w.heap.size w w' := by
 refine (Tryz.strconv_Itoa x h0 h1 w hE.pow).mono ?_
 rintro e w' ⟨rfl, k, os, rfl⟩
 exact ⟨rfl, Lib.below_grow _ _ (Nat.le_refl _) _ _⟩
theorem atoi_ok (l : List UInt8) (hl : l.length ≤ 1000000) (v : Int) (h : Lib.atoiAll l = .ok v) (w : World) :
 Calls Tryz.prog 144 #[.string (bs l)] w fun e w' => e = .returned (.tuple #[.int .i64 v, .nilIface]) ∧ Below w.heap.size w w' := by
 refine (Tryz.strconv_Atoi_ok (bs l) (by rw [bs_size]; omega) v (by rw [bs_list]; exact h) w).mono ?_
 rintro e w' ⟨rfl, h⟩
 refine ⟨rfl, ?_⟩
 rcases h with rfl | ⟨t, rfl⟩
 · exact Below.refl _ _
 · exact Lib.bytesWorld_below _ _ _
theorem atoi_syn (l : List UInt8) (hl : l.length ≤ 1000000) (h : Lib.atoiAll l = Lib.atoiAll []) (w : World) (hE : EnvAt w) :
 Calls Tryz.prog 144 #[.string (bs l)] w fun e w' => (∃ N, e = .returned (.tuple #[.int .i64 0, .iface 234 (.pointer (some ⟨N, 0, none⟩))])) ∧ Below w.heap.size w w' := by
 obtain ⟨te, pe, hv⟩ := hE.syn
 refine (Tryz.strconv_Atoi_syntax (bs l) (by rw [bs_size]; omega) (by rw [bs_list]; exact h) (.iface te pe) w hv (.inr ⟨te, pe, rfl⟩)).mono ?_
 rintro e w' ⟨N, rfl, _, _, h⟩
 exact ⟨⟨N, rfl⟩, h⟩
theorem atoi_rng (l : List UInt8) (hl : l.length ≤ 1000000) (h : Lib.atoiAll l = .range) (w : World) (hE : EnvAt w) :
 Calls Tryz.prog 144 #[.string (bs l)] w fun e w' => (∃ N, e = .returned (.tuple #[.int .i64 (Lib.atoiSat l), .iface 234 (.pointer (some ⟨N, 0, none⟩))])) ∧ Below w.heap.size w w' := by
 obtain ⟨te, pe, hv⟩ := hE.rng
 refine (Tryz.strconv_Atoi_range (bs l) (by rw [bs_size]; omega) (by rw [bs_list]; exact h) (.iface te pe) w hv (.inr ⟨te, pe, rfl⟩)).mono ?_
 rintro e w' ⟨N, rfl, _, _, h⟩
 rw [bs_list]
 exact ⟨⟨N, rfl⟩, h⟩
theorem atoi_bd {l : List UInt8} {v : Int} (h : Lib.atoiAll l = .ok v) : -9223372036854775808 ≤ v ∧ v ≤ 9223372036854775807 := by
 rw [← Lib.parseIntB_64] at h
 have := Lib.parseIntB_bounds h
 have e : (((2 : Nat) ^ (64 - 1) : Nat) : Int) = 9223372036854775808 := by decide
 rw [e] at this
 omega
theorem ne_bool (a c : List UInt8) : (!(bs a).toList == (bs c).toList) = decide (a ≠ c) := by
 rw [ByteArray.toList_eq, ByteArray.toList_eq, bs_list, bs_list]
 by_cases h : a = c
 · subst h; simp
 · rw [decide_eq_true h, show (a == c) = false by simpa using h]; rfl
set_option maxHeartbeats 1000000 in
set_option maxRecDepth 100000 in
theorem rd_number (b : Nat) (l : List UInt8) (hl : l.length ≤ 1000000) (q : Bool) (w : World) (h : RdAt w b l q) (hE : EnvAt w) (ht : top ≤ b) :
 Calls Tryz.prog 100 #[.pointer (some ⟨b, 0, none⟩)] w (RdPost w b (.int .i64 (prF.v l)) (nuR l) (q || prF.b l)) := by
 have CR := Lib.hid (run_any digQ Off.digs10 (by decide) contains_dig (ascii_of_all (by decide)) b l hl q)
 unfold RdPost at CR
 have hsl := Nat.le_trans (run_len digQ l) hl
 have ev : prF.v l = numV (run digQ l) := rfl
 have eb : prF.b l = numB (run digQ l) := rfl
 rw [ev, eb]
 unfold nuR
 obtain ⟨s, hs⟩ : ∃ s, run digQ l = s := ⟨_, rfl⟩
 rw [hs] at CR hsl
 rw [hs]
 have HR := Lib.hid h
 have HE := Lib.hid hE
 clear h hE hs ev eb
 rcases ha : Lib.atoiAll s with v | _ | _
 ·
  have CA := Lib.hid (fun w => atoi_ok s hsl v ha w)
  have hv := atoi_bd ha
  have CI := Lib.hid (fun w hE => itoa_any v hv.1 hv.2 w hE)
  have HN := Lib.hid (show numV s = v ∧ numB s = decide (Lib.itoa v ≠ s) by unfold numV numB; rw [ha]; exact ⟨rfl, rfl⟩)
  rw [HN.out.1, HN.out.2]
  clear ha hv
  go_enter Tryz.func100, Tryz.ntmps100
  go_wp2_with fail
  refine (CR.out _ HR.out).mono ?_
  rintro _ V ⟨rfl, hb, hr⟩
  have HB := Lib.hid hb
  have HV := Lib.hid hr
  have HEV := Lib.hid (HE.out.low (hb.low ht))
  clear hb hr
  go_wp2_with fail
  refine (CA.out _).mono ?_
  rintro _ V2 ⟨rfl, hb⟩
  have HB2 := Lib.hid (HB.out.trans (But.of_below hb (Nat.le_of_lt HV.out.lt)))
  have HV2 := Lib.hid (HV.out.keep hb)
  have HEV2 := Lib.hid (HEV.out.keep hb)
  obtain ⟨⟨d0, d1⟩, g0, g1⟩ := (HV.out.keep hb).row
  clear hb
  cases q
  · go_wp2_with fail
    refine (CI.out _ HEV2.out).mono ?_
    rintro _ V3 ⟨rfl, hb⟩
    have HB3 := Lib.hid (HB2.out.trans (But.of_below hb (Nat.le_of_lt HV2.out.lt)))
    have HV3 := Lib.hid (HV2.out.keep hb)
    clear d0 d1 g0 g1
    obtain ⟨⟨d0, d1⟩, g0, g1⟩ := (HV2.out.keep hb).row
    clear hb
    have hne := ne_bool (Lib.itoa v) s
    have HNE := Lib.hid hne
    clear hne
    go_wp2_with fail
    go_ret
    refine ⟨rfl, HB3.out.trans (But.set _ _ _), ?_⟩
    rw [Bool.false_or, ← HNE.out]
    exact HV3.out.setB _
  · go_wp2_with fail
    go_ret
    exact ⟨rfl, HB2.out.trans (But.set _ _ _), HV2.out.setB _⟩
 ·
  have CA := Lib.hid (fun w hE => atoi_syn s hsl ha w hE)
  have HN := Lib.hid (show numV s = 0 ∧ numB s = true by unfold numV numB; rw [ha]; exact ⟨rfl, rfl⟩)
  rw [HN.out.1, HN.out.2]
  clear ha
  go_enter Tryz.func100, Tryz.ntmps100
  go_wp2_with fail
  refine (CR.out _ HR.out).mono ?_
  rintro _ V ⟨rfl, hb, hr⟩
  have HB := Lib.hid hb
  have HV := Lib.hid hr
  have HEV := Lib.hid (HE.out.low (hb.low ht))
  clear hb hr
  go_wp2_with fail
  refine (CA.out _ HEV.out).mono ?_
  rintro _ V2 ⟨⟨N, rfl⟩, hb⟩
  have HB2 := Lib.hid (HB.out.trans (But.of_below hb (Nat.le_of_lt HV.out.lt)))
  have HV2 := Lib.hid (HV.out.keep hb)
  obtain ⟨⟨d0, d1⟩, g0, g1⟩ := (HV.out.keep hb).row
  clear hb
  cases q
  all_goals
   go_wp2_with fail
   go_ret
   exact ⟨rfl, HB2.out.trans (But.set _ _ _), HV2.out.setB _⟩
 ·
  have CA := Lib.hid (fun w hE => atoi_rng s hsl ha w hE)
  have HN := Lib.hid (show numV s = Lib.atoiSat s ∧ numB s = true by unfold numV numB; rw [ha]; exact ⟨rfl, rfl⟩)
  rw [HN.out.1, HN.out.2]
  obtain ⟨v, hv⟩ : ∃ v, Lib.atoiSat s = v := ⟨_, rfl⟩
  rw [hv] at CA
  rw [hv]
  clear ha hv
  go_enter Tryz.func100, Tryz.ntmps100
  go_wp2_with fail
  refine (CR.out _ HR.out).mono ?_
  rintro _ V ⟨rfl, hb, hr⟩
  have HB := Lib.hid hb
  have HV := Lib.hid hr
  have HEV := Lib.hid (HE.out.low (hb.low ht))
  clear hb hr
  go_wp2_with fail
  refine (CA.out _ HEV.out).mono ?_
  rintro _ V2 ⟨⟨N, rfl⟩, hb⟩
  have HB2 := Lib.hid (HB.out.trans (But.of_below hb (Nat.le_of_lt HV.out.lt)))
  have HV2 := Lib.hid (HV.out.keep hb)
  obtain ⟨⟨d0, d1⟩, g0, g1⟩ := (HV.out.keep hb).row
  clear hb
  cases q
  all_goals
   go_wp2_with fail
   go_ret
   exact ⟨rfl, HB2.out.trans (But.set _ _ _), HV2.out.setB _⟩
def DtPost (w : World) (b : Nat) (r : Dr) (q : Bool) (e : Ending) (w' : World) : Prop := e = .returned r.d.val ∧ But b w w' ∧ RdAt w' b r.l (q || r.b)
structure Rdi (w : World) (b : Nat) (l : List UInt8) (q : Bool) (k d m x s : Int) (wr : World) : Prop where
 but : But b w wr
 rd : RdAt wr b l q
 res : wr.heap[w.heap.size]? = some (.cells #[.int .i64 0, .int .i64 0, .int .i64 0, .int .i64 0, .int .i64 0] 48 (0, 0))
 dt : wr.heap[w.heap.size + 1]? = some (.cells #[.int .i64 k, .int .i64 d, .int .i64 m, .int .i64 x, .int .i64 s] 48 (0, 0))
theorem Rdi.call {w : World} {b : Nat} {l l' : List UInt8} {q q' : Bool} {k d m x s : Int} {wr W : World} (h : Rdi w b l q k d m x s wr) (hlt : b < w.heap.size) (hB : But b wr W) (hr : RdAt W b l' q') : Rdi w b l' q' k d m x s W :=
 ⟨h.but.trans hB, hr, hB.heap h.res (by omega), hB.heap h.dt (by omega)⟩
theorem Rdi.row {w : World} {b : Nat} {l : List UInt8} {q : Bool} {k d m x s : Int} {wr : World} (h : Rdi w b l q k d m x s wr) :
 (wr.cell? ⟨w.heap.size + 1, 0, none⟩ = some (.int .i64 k) ∧ wr.cell? ⟨w.heap.size + 1, 1, none⟩ = some (.int .i64 d) ∧ wr.cell? ⟨w.heap.size + 1, 2, none⟩ = some (.int .i64 m) ∧ wr.cell? ⟨w.heap.size + 1, 3, none⟩ = some (.int .i64 x) ∧ wr.cell? ⟨w.heap.size + 1, 4, none⟩ = some (.int .i64 s)) ∧
 wr.frozen? ⟨w.heap.size + 1, 0, none⟩ = false ∧ wr.frozen? ⟨w.heap.size + 1, 1, none⟩ = false ∧ wr.frozen? ⟨w.heap.size + 1, 2, none⟩ = false ∧ wr.frozen? ⟨w.heap.size + 1, 3, none⟩ = false ∧ wr.frozen? ⟨w.heap.size + 1, 4, none⟩ = false :=
 ⟨⟨cells_at h.dt 0, cells_at h.dt 1, cells_at h.dt 2, cells_at h.dt 3, cells_at h.dt 4⟩, free_at h.dt 0, free_at h.dt 1, free_at h.dt 2, free_at h.dt 3, free_at h.dt 4⟩
theorem Rdi.set {w : World} {b : Nat} {l : List UInt8} {q : Bool} {k d m x s : Int} {wr : World} (h : Rdi w b l q k d m x s wr) (hlt : b < w.heap.size) (i : Nat) (u : Value) (k' d' m' x' s' : Int)
 (he : (#[.int .i64 k, .int .i64 d, .int .i64 m, .int .i64 x, .int .i64 s] : Array Value).setIfInBounds i u = #[.int .i64 k', .int .i64 d', .int .i64 m', .int .i64 x', .int .i64 s']) :
 Rdi w b l q k' d' m' x' s' (wr.setCell ⟨w.heap.size + 1, i, none⟩ u) := by
 have hb : But b wr (wr.setCell ⟨w.heap.size + 1, i, none⟩ u) → True := fun _ => trivial
 refine ⟨⟨h.but.below.setCell (by show b ≤ w.heap.size + 1; omega) u, fun j h1 h2 => (Below.heap_setCell _ _ _ _ (by show j ≠ w.heap.size + 1; omega)).trans (h.but.above j h1 h2)⟩, ?_, ?_, ?_⟩
 · exact (Below.heap_setCell _ _ _ _ (by show b ≠ w.heap.size + 1; omega)).trans h.rd
 · exact (Below.heap_setCell _ _ _ _ (by show w.heap.size ≠ w.heap.size + 1; omega)).trans h.res
 · rw [← he]; exact cells_set h.dt i u
theorem Rdi.rrow {w : World} {b : Nat} {l : List UInt8} {q : Bool} {k d m x s : Int} {wr : World} (h : Rdi w b l q k d m x s wr) :
 (wr.cell? ⟨w.heap.size, 0, none⟩ = some (.int .i64 0) ∧ wr.cell? ⟨w.heap.size, 1, none⟩ = some (.int .i64 0) ∧ wr.cell? ⟨w.heap.size, 2, none⟩ = some (.int .i64 0) ∧ wr.cell? ⟨w.heap.size, 3, none⟩ = some (.int .i64 0) ∧ wr.cell? ⟨w.heap.size, 4, none⟩ = some (.int .i64 0)) ∧
 wr.frozen? ⟨w.heap.size, 0, none⟩ = false ∧ wr.frozen? ⟨w.heap.size, 1, none⟩ = false ∧ wr.frozen? ⟨w.heap.size, 2, none⟩ = false ∧ wr.frozen? ⟨w.heap.size, 3, none⟩ = false ∧ wr.frozen? ⟨w.heap.size, 4, none⟩ = false :=
 ⟨⟨cells_at h.res 0, cells_at h.res 1, cells_at h.res 2, cells_at h.res 3, cells_at h.res 4⟩, free_at h.res 0, free_at h.res 1, free_at h.res 2, free_at h.res 3, free_at h.res 4⟩
structure RdB (w : World) (b : Nat) (l : List UInt8) (q : Bool) (wr : World) : Prop where
 but : But b w wr
 rd : RdAt wr b l q
theorem RdB.set {w : World} {b : Nat} {l : List UInt8} {q : Bool} {wr : World} (h : RdB w b l q wr) (hlt : b < w.heap.size) (k i : Nat) (hk : w.heap.size ≤ k) (u : Value) : RdB w b l q (wr.setCell ⟨k, i, none⟩ u) :=
 ⟨⟨h.but.below.setCell (by show b ≤ k; omega) u, fun j h1 h2 => (Below.heap_setCell _ _ _ _ (by show j ≠ k; omega)).trans (h.but.above j h1 h2)⟩, (Below.heap_setCell _ _ _ _ (by show b ≠ k; omega)).trans h.rd⟩
theorem Rdi.start (w : World) (b : Nat) (l : List UInt8) (q : Bool) (h : RdAt w b l q) : Rdi w b l q 2 0 0 0 7200 ((w.alloc (.cells #[.int .i64 0, .int .i64 0, .int .i64 0, .int .i64 0, .int .i64 0] 48)).alloc (.cells #[.int .i64 2, .int .i64 0, .int .i64 0, .int .i64 0, .int .i64 7200] 48)) := by
 have hz : (w.alloc (.cells #[.int .i64 0, .int .i64 0, .int .i64 0, .int .i64 0, .int .i64 0] 48)).heap.size = w.heap.size + 1 := by simp
 have hB : Below w.heap.size w ((w.alloc (.cells #[.int .i64 0, .int .i64 0, .int .i64 0, .int .i64 0, .int .i64 0] 48)).alloc (.cells #[.int .i64 2, .int .i64 0, .int .i64 0, .int .i64 0, .int .i64 7200] 48)) := ((Below.refl _ w).alloc (Nat.le_refl _) _).alloc (by simp) _
 refine ⟨But.of_below hB (Nat.le_of_lt h.lt), h.keep hB, heap_old (heap_new w _) _, ?_⟩
 have := heap_new (w.alloc (.cells #[.int .i64 0, .int .i64 0, .int .i64 0, .int .i64 0, .int .i64 0] 48)) (.cells #[.int .i64 2, .int .i64 0, .int .i64 0, .int .i64 0, .int .i64 7200] 48)
 rwa [hz] at this
theorem head_cases (F : Fl) (l : List UInt8) :
 (nextB 74 l = true ∧ nextR 74 l = l.drop 1 ∧ Hid (headG F l = ⟨1, 0, 0, l.drop 1, false⟩)) ∨
 (nextB 74 l = false ∧ nextR 74 l = l ∧ nextB 77 l = true ∧ nextR 77 l = l.drop 1 ∧ Hid (headG F l = ⟨3, F.v (l.drop 1), F.v (nextR 46 (nuR (l.drop 1))), nextR 46 (nuR (nextR 46 (nuR (l.drop 1)))),
  F.b (l.drop 1) || !nextB 46 (nuR (l.drop 1)) || F.b (nextR 46 (nuR (l.drop 1))) || !nextB 46 (nuR (nextR 46 (nuR (l.drop 1))))⟩)) ∨
 (nextB 74 l = false ∧ nextR 74 l = l ∧ nextB 77 l = false ∧ nextR 77 l = l ∧ Hid (headG F l = ⟨2, 0, 0, l, false⟩)) := by
 unfold headG nextR
 cases h1 : nextB 74 l
 · right
   cases h2 : nextB 77 l
   · right; exact ⟨rfl, rfl, rfl, rfl, Lib.hid rfl⟩
   · left; exact ⟨rfl, rfl, rfl, rfl, Lib.hid rfl⟩
 · left; exact ⟨rfl, rfl, Lib.hid rfl⟩
theorem nuR_le (l : List UInt8) : (nuR l).length ≤ l.length := past_le _ _
theorem scR_le (l : List UInt8) : (scR l).length ≤ l.length := past_le _ _
theorem head_le (F : Fl) (l : List UInt8) : (headG F l).l.length ≤ l.length := by
 have h1 : (l.drop 1).length ≤ l.length := by rw [List.length_drop]; omega
 have h2 := nextR_le 46 (nuR (nextR 46 (nuR (l.drop 1))))
 have h3 := nuR_le (nextR 46 (nuR (l.drop 1)))
 have h4 := nextR_le 46 (nuR (l.drop 1))
 have h5 := nuR_le (l.drop 1)
 unfold headG
 split
 · exact h1
 · split
   · dsimp only; omega
   · exact Nat.le_refl _
set_option maxHeartbeats 1000000 in
set_option maxRecDepth 100000 in
theorem rd_date (b : Nat) (l : List UInt8) (hl : l.length ≤ 1000000) (q : Bool) (w : World) (h : RdAt w b l q) (hE : EnvAt w) (ht : top ≤ b) :
 Calls Tryz.prog 53 #[.pointer (some ⟨b, 0, none⟩)] w (DtPost w b (dateG prF l) q) := by
 have hlt := h.lt
 have HI := Lib.hid (Rdi.start w b l q h)
 have HE := Lib.hid hE
 have CJ := Lib.hid (next_any 74 b l q)
 have CM := Lib.hid (next_any 77 b l q)
 unfold RdPost at CJ CM
 have hcs := head_cases prF l
 have HDL := Lib.hid (head_le prF l)
 have HDT := Lib.hid (show dateG prF l = timeG (headG prF l).kind (prF.v (headG prF l).l) (headG prF l).month (headG prF l).week (nuR (headG prF l).l) ((headG prF l).b || prF.b (headG prF l).l) from rfl)
 obtain ⟨H, hH⟩ : ∃ H, headG prF l = H := ⟨_, rfl⟩
 obtain ⟨D, hD⟩ : ∃ D, dateG prF l = D := ⟨_, rfl⟩
 rw [hH] at hcs HDL HDT
 rw [hD] at HDT ⊢
 obtain ⟨hk, hm, hw, hll, hbb⟩ := H
 clear h hE hH hD
 go_enter Tryz.func53, Tryz.ntmps53
 go_upto_block 0 with fail
 go_cut [5] (fun _ wx => Rdi w b hll (q || hbb) hk 0 hm hw 7200 wx)
 case first =>
  rcases hcs with ⟨n1, n2, he⟩ | ⟨n1, n2, n3, n4, he⟩ | ⟨n1, n2, n3, n4, he⟩
  · have he' := he.out
    injection he' with e1 e2 e3 e4 e5
    subst e1 e2 e3 e4 e5
    rw [n1, n2] at CJ
    clear n1 n2
    go_wp2_with fail
    refine (CJ.out _ HI.out.rd).mono ?_
    rintro _ V ⟨rfl, hb, hr⟩
    have HV := Lib.hid (HI.out.call hlt hb hr)
    obtain ⟨⟨d0, d1, d2, d3, d4⟩, g0, g1, g2, g3, g4⟩ := HV.out.row
    clear hb hr
    go_wp2_with fail
    go_meet
    rw [Bool.or_false]
    exact HV.out.set hlt 0 _ 1 0 0 0 7200 rfl
  · rw [n1, n2] at CJ
    rw [n3, n4] at CM
    have k1 : (l.drop 1).length ≤ l.length := by rw [List.length_drop]; omega
    obtain ⟨l1, hl1⟩ : ∃ l1, l.drop 1 = l1 := ⟨_, rfl⟩
    rw [hl1] at CM he k1
    have k2 := nuR_le l1
    have k3 := nextR_le 46 (nuR l1)
    have CN := Lib.hid (fun q w h hE => rd_number b l1 (by omega) q w h hE ht)
    have CW := Lib.hid (fun q => want_any 46 b (nuR l1) q)
    obtain ⟨l3, hl3⟩ : ∃ l3, nextR 46 (nuR l1) = l3 := ⟨_, rfl⟩
    rw [hl3] at CW he k3
    have CN2 := Lib.hid (fun q w h hE => rd_number b l3 (by omega) q w h hE ht)
    have CW2 := Lib.hid (fun q => want_any 46 b (nuR l3) q)
    unfold RdPost at CN CW CN2 CW2
    have he' := he.out
    injection he' with e1 e2 e3 e4 e5
    subst e1 e2 e3 e4 e5
    obtain ⟨v1, hv1⟩ : ∃ v, prF.v l1 = v := ⟨_, rfl⟩
    obtain ⟨v2, hv2⟩ : ∃ v, prF.v l3 = v := ⟨_, rfl⟩
    rw [hv1] at CN
    rw [hv2] at CN2
    have HV1 := Lib.hid hv1
    have HV2 := Lib.hid hv2
    clear n1 n2 n3 n4 hl1 hl3 hv1 hv2
    go_wp2_with fail
    refine (CJ.out _ HI.out.rd).mono ?_
    rintro _ V ⟨rfl, hb, hr⟩
    have HA := Lib.hid (HI.out.call hlt hb hr)
    clear hb hr
    go_wp2_with fail
    refine (CM.out _ HA.out.rd).mono ?_
    rintro _ V2 ⟨rfl, hb, hr⟩
    have HB := Lib.hid (HA.out.call hlt hb hr)
    have HEB := Lib.hid (HE.out.low (HB.out.but.low ht))
    clear hb hr
    go_wp2_with fail
    refine (CN.out q _ HB.out.rd HEB.out).mono ?_
    rintro _ V3 ⟨rfl, hb, hr⟩
    have HC := Lib.hid (HB.out.call hlt hb hr)
    obtain ⟨⟨d0, d1, d2, d3, d4⟩, g0, g1, g2, g3, g4⟩ := HC.out.row
    have HC2 := Lib.hid ((HC.out.set hlt 0 (.int .i64 3) 3 0 0 0 7200 rfl).set hlt 2 (.int .i64 v1) 3 0 v1 0 7200 rfl)
    clear hb hr
    go_wp2_with fail
    refine (CW.out _ _ HC2.out.rd).mono ?_
    rintro _ V4 ⟨_, rfl, hb, hr⟩
    have HD := Lib.hid (HC2.out.call hlt hb hr)
    have HED := Lib.hid (HE.out.low (HD.out.but.low ht))
    clear hb hr d0 d1 d2 d3 d4 g0 g1 g2 g3 g4
    go_wp2_with fail
    refine (CN2.out _ _ HD.out.rd HED.out).mono ?_
    rintro _ V5 ⟨rfl, hb, hr⟩
    have HF := Lib.hid (HD.out.call hlt hb hr)
    obtain ⟨⟨d0, d1, d2, d3, d4⟩, g0, g1, g2, g3, g4⟩ := HF.out.row
    have HF2 := Lib.hid (HF.out.set hlt 3 (.int .i64 v2) 3 0 v1 v2 7200 rfl)
    clear hb hr
    go_wp2_with fail
    refine (CW2.out _ _ HF2.out.rd).mono ?_
    rintro _ V6 ⟨_, rfl, hb, hr⟩
    have HG := Lib.hid (HF2.out.call hlt hb hr)
    clear hb hr d0 d1 d2 d3 d4 g0 g1 g2 g3 g4
    go_wp2_with fail
    go_meet
    rw [HV1.out, HV2.out, show (q || (prF.b l1 || !nextB 46 (nuR l1) || prF.b l3 || !nextB 46 (nuR l3))) = (q || prF.b l1 || !nextB 46 (nuR l1) || prF.b l3 || !nextB 46 (nuR l3)) by simp only [Bool.or_assoc]]
    exact HG.out
  · have he' := he.out
    injection he' with e1 e2 e3 e4 e5
    subst e1 e2 e3 e4 e5
    rw [n1, n2] at CJ
    rw [n3, n4] at CM
    clear n1 n2 n3 n4
    go_wp2_with fail
    refine (CJ.out _ HI.out.rd).mono ?_
    rintro _ V ⟨rfl, hb, hr⟩
    have HA := Lib.hid (HI.out.call hlt hb hr)
    clear hb hr
    go_wp2_with fail
    refine (CM.out _ HA.out.rd).mono ?_
    rintro _ V2 ⟨rfl, hb, hr⟩
    have HB := Lib.hid (HA.out.call hlt hb hr)
    clear hb hr
    go_wp2_with fail
    go_meet
    rw [Bool.or_false]
    exact HB.out
 case rest =>
  have HA := Lib.hid hcut
  have HEA := Lib.hid (HE.out.low (HA.out.but.low ht))
  have hz : hll.length ≤ 1000000 := Nat.le_trans HDL.out hl
  have hz2 := nuR_le hll
  have CN := Lib.hid (fun q w h hE => rd_number b hll hz q w h hE ht)
  have CS := Lib.hid (fun q => next_any 47 b (nuR hll) q)
  have CX := Lib.hid (fun q w h hE => rd_seconds b ((nuR hll).drop 1) (by rw [List.length_drop]; omega) q w h hE ht)
  unfold RdPost at CN CS CX
  dsimp only at HDT
  unfold timeG at HDT
  obtain ⟨v, hv⟩ : ∃ v, prF.v hll = v := ⟨_, rfl⟩
  obtain ⟨bv, hbv⟩ : ∃ v, prF.b hll = v := ⟨_, rfl⟩
  rw [hv, hbv] at CN HDT
  obtain ⟨r, hr0⟩ : ∃ r, nuR hll = r := ⟨_, rfl⟩
  rw [hr0] at CN CS CX HDT
  have hn : (nextB 47 r = true ∧ nextR 47 r = r.drop 1) ∨ (nextB 47 r = false ∧ nextR 47 r = r) := by
   unfold nextR
   cases h : nextB 47 r
   · right; exact ⟨rfl, rfl⟩
   · left; exact ⟨rfl, rfl⟩
  clear hcut hcs hv hbv hr0 CJ CM
  go_wp2_with fail
  refine (CN.out _ _ HA.out.rd HEA.out).mono ?_
  rintro _ V ⟨rfl, hb, hr⟩
  have HB := Lib.hid (HA.out.call hlt hb hr)
  obtain ⟨⟨d0, d1, d2, d3, d4⟩, g0, g1, g2, g3, g4⟩ := HB.out.row
  have HB2 := Lib.hid (HB.out.set hlt 1 (.int .i64 v) hk v hm hw 7200 rfl)
  clear hb hr
  go_wp2_with fail
  refine (CS.out _ _ HB2.out.rd).mono ?_
  rintro _ V2 ⟨rfl, hb, hr⟩
  have HC := Lib.hid (HB2.out.call hlt hb hr)
  clear hb hr d0 d1 d2 d3 d4 g0 g1 g2 g3 g4
  rcases hn with ⟨n1, n2⟩ | ⟨n1, n2⟩
  · rw [n1, if_pos rfl] at HDT
    rw [n2] at HC
    rw [n1]
    have HEC := Lib.hid (HE.out.low (HC.out.but.low ht))
    clear n1 n2
    go_wp2_with fail
    refine (CX.out _ _ HC.out.rd HEC.out).mono ?_
    rintro _ V3 ⟨rfl, hb, hr⟩
    have HF := Lib.hid (HC.out.call hlt hb hr)
    clear hb hr
    obtain ⟨sv, hsv⟩ : ∃ s, scV (r.drop 1) = s := ⟨_, rfl⟩
    rw [hsv] at HDT ⊢
    obtain ⟨⟨d0, d1, d2, d3, d4⟩, g0, g1, g2, g3, g4⟩ := HF.out.row
    obtain ⟨⟨r0, r1, r2, r3, r4⟩, f0, f1, f2, f3, f4⟩ := HF.out.rrow
    clear hsv
    go_wp2_with fail
    refine bodyPost_ret (v := .agg #[.int .i64 hk, .int .i64 v, .int .i64 hm, .int .i64 hw, .int .i64 sv]) (by simp [results, Tryz.results53, go_sem, r0, r1, r2, r3, r4]) rfl ?_
    have hf := ((((((⟨HF.out.but, HF.out.rd⟩ : RdB w b _ _ V3).set hlt (w.heap.size + 1) 4 (by omega) (.int .i64 sv)).set hlt w.heap.size 0 (Nat.le_refl _) (.int .i64 hk)).set hlt w.heap.size 1 (Nat.le_refl _) (.int .i64 v)).set hlt w.heap.size 2 (Nat.le_refl _) (.int .i64 hm)).set hlt w.heap.size 3 (Nat.le_refl _) (.int .i64 hw)).set hlt w.heap.size 4 (Nat.le_refl _) (.int .i64 sv)
    refine ⟨by rw [HDT.out]; rfl, hf.but, ?_⟩
    rw [HDT.out]
    dsimp only
    rw [show (q || (hbb || bv || scB (r.drop 1))) = (q || hbb || bv || scB (r.drop 1)) by simp only [Bool.or_assoc]]
    exact hf.rd
  · rw [n1, if_neg (by decide)] at HDT
    rw [n2] at HC
    rw [n1]
    obtain ⟨⟨d0, d1, d2, d3, d4⟩, g0, g1, g2, g3, g4⟩ := HC.out.row
    obtain ⟨⟨r0, r1, r2, r3, r4⟩, f0, f1, f2, f3, f4⟩ := HC.out.rrow
    clear n1 n2
    go_wp2_with fail
    refine bodyPost_ret (v := .agg #[.int .i64 hk, .int .i64 v, .int .i64 hm, .int .i64 hw, .int .i64 7200]) (by simp [results, Tryz.results53, go_sem, r0, r1, r2, r3, r4]) rfl ?_
    have hf := (((((⟨HC.out.but, HC.out.rd⟩ : RdB w b _ _ V2).set hlt w.heap.size 0 (Nat.le_refl _) (.int .i64 hk)).set hlt w.heap.size 1 (Nat.le_refl _) (.int .i64 v)).set hlt w.heap.size 2 (Nat.le_refl _) (.int .i64 hm)).set hlt w.heap.size 3 (Nat.le_refl _) (.int .i64 hw)).set hlt w.heap.size 4 (Nat.le_refl _) (.int .i64 7200)
    refine ⟨by rw [HDT.out]; rfl, hf.but, ?_⟩
    rw [HDT.out]
    dsimp only
    rw [show (q || (hbb || bv)) = (q || hbb || bv) by simp only [Bool.or_assoc]]
    exact hf.rd
end Go.Proofs.YtkpmmabdpeobaaaGreatDoor.Px
namespace Go.Proofs.YtkpmmabdpeobaaaGreatDoor.Px
open Go.RowKit
open Civ
open Off (run)
def Pos.cells (p : Pos) : Array Value := #[.string p.std, .int .i64 p.stdOff, .string p.dst, .int .i64 p.dstOff, .int .i64 p.start.kind, .int .i64 p.start.day, .int .i64 p.start.month, .int .i64 p.start.week, .int .i64 p.start.sec,
 .int .i64 p.stop.kind, .int .i64 p.stop.day, .int .i64 p.stop.month, .int .i64 p.stop.week, .int .i64 p.stop.sec]
structure Psi (w : World) (l : List UInt8) (q : Bool) (p : Pos) (wr : World) : Prop where
 below : Below w.heap.size w wr
 res : wr.heap[w.heap.size]? = some (.cells Pos.zero.cells 50 (0, 0))
 rd : RdAt wr (w.heap.size + 1) l q
 pos : wr.heap[w.heap.size + 2]? = some (.cells p.cells 50 (0, 0))
theorem Psi.call {w : World} {l l' : List UInt8} {q q' : Bool} {p : Pos} {wr W : World} (h : Psi w l q p wr) (hB : But (w.heap.size + 1) wr W) (hr : RdAt W (w.heap.size + 1) l' q') : Psi w l' q' p W :=
 ⟨h.below.trans (hB.low (Nat.le_succ _)), hB.heap h.res (by omega), hr, hB.heap h.pos (by omega)⟩
theorem Psi.keep {w : World} {l : List UInt8} {q : Bool} {p : Pos} {wr W : World} (h : Psi w l q p wr) (hB : Below wr.heap.size wr W) : Psi w l q p W :=
 ⟨h.below.trans (hB.mono h.below.size), heap_keep h.res hB, h.rd.keep hB, heap_keep h.pos hB⟩
theorem Psi.set {w : World} {l : List UInt8} {q : Bool} {p : Pos} {wr : World} (h : Psi w l q p wr) (i : Nat) (u : Value) (p' : Pos) (he : p.cells.setIfInBounds i u = p'.cells) :
 Psi w l q p' (wr.setCell ⟨w.heap.size + 2, i, none⟩ u) :=
 ⟨h.below.setCell (by show w.heap.size ≤ w.heap.size + 2; omega) u, (Below.heap_setCell _ _ _ _ (by show w.heap.size ≠ w.heap.size + 2; omega)).trans h.res,
  (Below.heap_setCell _ _ _ _ (by show w.heap.size + 1 ≠ w.heap.size + 2; omega)).trans h.rd, by rw [← he]; exact cells_set h.pos i u⟩
theorem Psi.setB {w : World} {l : List UInt8} {q : Bool} {p : Pos} {wr : World} (h : Psi w l q p wr) (r : Bool) : Psi w l r p (wr.setCell ⟨w.heap.size + 1, 1, none⟩ (.bool r)) :=
 ⟨h.below.setCell (by show w.heap.size ≤ w.heap.size + 1; omega) _, (Below.heap_setCell _ _ _ _ (by show w.heap.size ≠ w.heap.size + 1; omega)).trans h.res, h.rd.setB r,
  (Below.heap_setCell _ _ _ _ (by show w.heap.size + 2 ≠ w.heap.size + 1; omega)).trans h.pos⟩
theorem Psi.start (w : World) (l : List UInt8) (T1 T2 T3 : Nat) (h1 : T1 = 50) (h2 : T2 = 97) (h3 : T3 = 50) :
 Psi w l false Pos.zero (((w.alloc (.cells Pos.zero.cells T1)).alloc (.cells #[.string (bs l), .bool false] T2)).alloc (.cells Pos.zero.cells T3)) := by
 subst h1 h2 h3
 have z1 : (w.alloc (.cells Pos.zero.cells 50)).heap.size = w.heap.size + 1 := by simp
 have z2 : ((w.alloc (.cells Pos.zero.cells 50)).alloc (.cells #[.string (bs l), .bool false] 97)).heap.size = w.heap.size + 2 := by simp
 refine ⟨(((Below.refl _ w).alloc (Nat.le_refl _) _).alloc (by rw [z1]; omega) _).alloc (by rw [z2]; omega) _, heap_old (heap_old (heap_new w _) _) _, ?_, ?_⟩
 · have := heap_new (w.alloc (.cells Pos.zero.cells 50)) (.cells #[.string (bs l), .bool false] 97)
   rw [z1] at this
   exact heap_old this _
 · have := heap_new ((w.alloc (.cells Pos.zero.cells 50)).alloc (.cells #[.string (bs l), .bool false] 97)) (.cells Pos.zero.cells 50)
   rwa [z2] at this
theorem hasPrefix_next (c : UInt8) (l : List UInt8) : Lib.hasPrefix l [c] = nextB c l := by
 unfold Lib.hasPrefix nextB
 cases l with
 | nil => rfl
 | cons a r =>
   show (c == a && true) = (a == c)
   rw [Bool.and_true]
   exact Bool.eq_iff_iff.2 ⟨fun h => beq_iff_eq.2 (beq_iff_eq.1 h).symm, fun h => beq_iff_eq.2 (beq_iff_eq.1 h).symm⟩
theorem dateG_le (F : Fl) (l : List UInt8) : (dateG F l).l.length ≤ l.length := by
 have h1 := head_le F l
 have h2 := nuR_le (headG F l).l
 have h3 := scR_le ((nuR (headG F l).l).drop 1)
 have h4 : ((nuR (headG F l).l).drop 1).length ≤ (nuR (headG F l).l).length := by rw [List.length_drop]; omega
 unfold dateG timeG
 split
 · dsimp only; omega
 · dsimp only; omega
theorem dst_cases (F : Fl) (hg : F.g = false) (a : List UInt8) (o : Int) (c l : List UInt8) (b : Bool) :
 (nextB 44 l = true ∧ Hid (dstG F a o c l b = datesG F a o c (o + 3600) l b)) ∨ (nextB 44 l = false ∧ Hid (dstG F a o c l b = datesG F a o c (-scV l) (scR l) (b || scB l))) := by
 unfold dstG skipG
 rw [hg]
 cases h : nextB 44 l
 · right; exact ⟨rfl, Lib.hid rfl⟩
 · left; exact ⟨rfl, Lib.hid rfl⟩
theorem nmR_le (l : List UInt8) : (nmR l).length ≤ l.length := by
 have h1 := nextR_le 60 l
 have h2 : (nmT l).length ≤ (nextR 60 l).length := past_le _ _
 have h3 := nextR_le 62 (nmT l)
 unfold nmR
 split <;> omega
theorem Psi.rrow {w : World} {l : List UInt8} {q : Bool} {p : Pos} {wr : World} (h : Psi w l q p wr) :
 (wr.cell? ⟨w.heap.size, 0, none⟩ = some (.string ⟨#[]⟩) ∧ wr.cell? ⟨w.heap.size, 1, none⟩ = some (.int .i64 0) ∧ wr.cell? ⟨w.heap.size, 2, none⟩ = some (.string ⟨#[]⟩) ∧ wr.cell? ⟨w.heap.size, 3, none⟩ = some (.int .i64 0) ∧ wr.cell? ⟨w.heap.size, 4, none⟩ = some (.int .i64 0) ∧ wr.cell? ⟨w.heap.size, 5, none⟩ = some (.int .i64 0) ∧ wr.cell? ⟨w.heap.size, 6, none⟩ = some (.int .i64 0) ∧ wr.cell? ⟨w.heap.size, 7, none⟩ = some (.int .i64 0) ∧ wr.cell? ⟨w.heap.size, 8, none⟩ = some (.int .i64 0) ∧ wr.cell? ⟨w.heap.size, 9, none⟩ = some (.int .i64 0) ∧ wr.cell? ⟨w.heap.size, 10, none⟩ = some (.int .i64 0) ∧ wr.cell? ⟨w.heap.size, 11, none⟩ = some (.int .i64 0) ∧ wr.cell? ⟨w.heap.size, 12, none⟩ = some (.int .i64 0) ∧ wr.cell? ⟨w.heap.size, 13, none⟩ = some (.int .i64 0)) ∧
 (wr.frozen? ⟨w.heap.size, 0, none⟩ = false ∧ wr.frozen? ⟨w.heap.size, 1, none⟩ = false ∧ wr.frozen? ⟨w.heap.size, 2, none⟩ = false ∧ wr.frozen? ⟨w.heap.size, 3, none⟩ = false ∧ wr.frozen? ⟨w.heap.size, 4, none⟩ = false ∧ wr.frozen? ⟨w.heap.size, 5, none⟩ = false ∧ wr.frozen? ⟨w.heap.size, 6, none⟩ = false ∧ wr.frozen? ⟨w.heap.size, 7, none⟩ = false ∧ wr.frozen? ⟨w.heap.size, 8, none⟩ = false ∧ wr.frozen? ⟨w.heap.size, 9, none⟩ = false ∧ wr.frozen? ⟨w.heap.size, 10, none⟩ = false ∧ wr.frozen? ⟨w.heap.size, 11, none⟩ = false ∧ wr.frozen? ⟨w.heap.size, 12, none⟩ = false ∧ wr.frozen? ⟨w.heap.size, 13, none⟩ = false) :=
 ⟨⟨cells_at h.res 0, cells_at h.res 1, cells_at h.res 2, cells_at h.res 3, cells_at h.res 4, cells_at h.res 5, cells_at h.res 6, cells_at h.res 7, cells_at h.res 8, cells_at h.res 9, cells_at h.res 10, cells_at h.res 11, cells_at h.res 12, cells_at h.res 13⟩, ⟨free_at h.res 0, free_at h.res 1, free_at h.res 2, free_at h.res 3, free_at h.res 4, free_at h.res 5, free_at h.res 6, free_at h.res 7, free_at h.res 8, free_at h.res 9, free_at h.res 10, free_at h.res 11, free_at h.res 12, free_at h.res 13⟩⟩
theorem Psi.prow {w : World} {l : List UInt8} {q : Bool} {a c : ByteArray} {b d k1 d1 m1 w1 s1 k2 d2 m2 w2 s2 : Int} {wr : World} (h : Psi w l q ⟨a, b, c, d, ⟨k1, d1, m1, w1, s1⟩, ⟨k2, d2, m2, w2, s2⟩⟩ wr) :
 wr.cell? ⟨w.heap.size + 1 + 1, 0, none⟩ = some (.string a) ∧ wr.cell? ⟨w.heap.size + 1 + 1, 1, none⟩ = some (.int .i64 b) ∧ wr.cell? ⟨w.heap.size + 1 + 1, 2, none⟩ = some (.string c) ∧ wr.cell? ⟨w.heap.size + 1 + 1, 3, none⟩ = some (.int .i64 d) ∧ wr.cell? ⟨w.heap.size + 1 + 1, 4, none⟩ = some (.int .i64 k1) ∧ wr.cell? ⟨w.heap.size + 1 + 1, 5, none⟩ = some (.int .i64 d1) ∧ wr.cell? ⟨w.heap.size + 1 + 1, 6, none⟩ = some (.int .i64 m1) ∧ wr.cell? ⟨w.heap.size + 1 + 1, 7, none⟩ = some (.int .i64 w1) ∧ wr.cell? ⟨w.heap.size + 1 + 1, 8, none⟩ = some (.int .i64 s1) ∧ wr.cell? ⟨w.heap.size + 1 + 1, 9, none⟩ = some (.int .i64 k2) ∧ wr.cell? ⟨w.heap.size + 1 + 1, 10, none⟩ = some (.int .i64 d2) ∧ wr.cell? ⟨w.heap.size + 1 + 1, 11, none⟩ = some (.int .i64 m2) ∧ wr.cell? ⟨w.heap.size + 1 + 1, 12, none⟩ = some (.int .i64 w2) ∧ wr.cell? ⟨w.heap.size + 1 + 1, 13, none⟩ = some (.int .i64 s2) :=
 ⟨cells_at h.pos 0, cells_at h.pos 1, cells_at h.pos 2, cells_at h.pos 3, cells_at h.pos 4, cells_at h.pos 5, cells_at h.pos 6, cells_at h.pos 7, cells_at h.pos 8, cells_at h.pos 9, cells_at h.pos 10, cells_at h.pos 11, cells_at h.pos 12, cells_at h.pos 13⟩
theorem nmS_size (l : List UInt8) : (bs (nmS l)).size ≤ l.length := by
 rw [bs_size]
 unfold nmS
 exact Nat.le_trans (run_len _ _) (nextR_le 60 l)
theorem parse_size (F : Fl) (l : List UInt8) : (parseG F l).p.std.size ≤ l.length ∧ (parseG F l).p.dst.size ≤ l.length := by
 have h1 := nmS_size l
 have h2 := nmS_size (scR (nmR l))
 have h3 := scR_le (nmR l)
 have h4 := nmR_le l
 unfold parseG
 split
 · exact ⟨h1, Nat.zero_le _⟩
 · unfold dstG
   split
   · exact ⟨h1, by show (bs (nmS (scR (nmR l)))).size ≤ _; omega⟩
   · exact ⟨h1, by show (bs (nmS (scR (nmR l)))).size ≤ _; omega⟩
theorem scV_bd (l : List UInt8) : -604799 ≤ scV l ∧ scV l ≤ 604799 := by
 unfold scV Off.parseO
 dsimp only
 split
 · exact ⟨by decide, by decide⟩
 · split
   · exact ⟨by decide, by decide⟩
   · split
     · exact ⟨by decide, by decide⟩
     · split
       · dsimp only; omega
       · dsimp only; omega
set_option maxHeartbeats 4000000 in
set_option maxRecDepth 100000 in
theorem parse_short (l : List UInt8) (w : World) (hE : EnvAt w) (hl : l.length ≤ 100) :
 Calls Tryz.prog 20 #[.string (bs l)] w fun e w' => e = .returned (.tuple #[(parseG prF l).fin.1.val, .int .i64 (parseG prF l).fin.2]) ∧ Below w.heap.size w w' := by
 have hz := bs_size l
 have i1 : ((bs l).size : Int) ≤ 100 := by omega
 have ht : top ≤ w.heap.size + 1 := Nat.le_trans hE.top (Nat.le_succ _)
 have hnr : (nmR l).length ≤ 1000000 := Nat.le_trans (nmR_le l) (by omega)
 have hb0 := scV_bd (nmR l)
 have CN := Lib.hid (fun q w2 h => rd_name (w.heap.size + 1) l (by omega) q w2 h)
 have CX := Lib.hid (fun q w2 h hE => rd_seconds (w.heap.size + 1) (nmR l) hnr q w2 h hE ht)
 unfold RdPost at CN CX
 obtain ⟨x0, hx0⟩ : ∃ x, scV (nmR l) = x := ⟨_, rfl⟩
 obtain ⟨l2, hl2⟩ : ∃ x, scR (nmR l) = x := ⟨_, rfl⟩
 obtain ⟨b2, hb2⟩ : ∃ x, scB (nmR l) = x := ⟨_, rfl⟩
 obtain ⟨n1, hn1⟩ : ∃ x, nmS l = x := ⟨_, rfl⟩
 obtain ⟨b1, hb1⟩ : ∃ x, nmB l = x := ⟨_, rfl⟩
 rw [hx0] at hb0
 rw [hx0, hl2, hb2] at CX
 rw [hn1, hb1] at CN
 have HS := Lib.hid (Psi.start w l 50 97 50 rfl rfl rfl)
 have HE := Lib.hid hE
 have hG : parseG prF l = if l2.isEmpty then ⟨⟨bs n1, -x0, bs [], 0, Dt.zero, Dt.zero⟩, [], b1 || false || b2⟩ else dstG prF n1 (-x0) (nmS l2) (nmR l2) (b1 || false || b2 || nmB l2 || (nmS l2).isEmpty) := by
  unfold parseG; rw [hl2, hx0, hn1, hb1, hb2]; rfl
 have hl2z : l2.length ≤ 1000000 := by rw [← hl2]; exact Nat.le_trans (scR_le _) hnr
 obtain ⟨hsz1, hsz2⟩ := parse_size prF l
 obtain ⟨R, hR⟩ : ∃ R, parseG prF l = R := ⟨_, rfl⟩
 rw [hR] at hG hsz1 hsz2
 rw [hR]
 have HG := Lib.hid hG
 obtain ⟨Rp, Rl, Rb⟩ := R
 have HFIN := Lib.hid (show (Pr.mk Rp Rl Rb).fin = if (Rb || !Rl.isEmpty || !Rp.ok) then (Pos.zero, 5) else (Rp, 0) from rfl)
 obtain ⟨FF, hFF⟩ : ∃ F, (Pr.mk Rp Rl Rb).fin = F := ⟨_, rfl⟩
 rw [hFF] at HFIN ⊢
 dsimp only at hsz1 hsz2
 have HSZ1 := Lib.hid hsz1
 have HSZ2 := Lib.hid hsz2
 clear hx0 hl2 hb2 hn1 hb1 hE hG hR hsz1 hsz2 hFF
 obtain ⟨x00, x01⟩ := hb0
 go_enter Tryz.func20, Tryz.ntmps20
 go_wp2_with fail
 refine (CN.out false _ HS.out.rd).mono ?_
 rintro _ V ⟨rfl, hb, hr⟩
 have HA := Lib.hid (HS.out.call hb hr)
 have HEA := Lib.hid (HE.out.low (HA.out.below.mono HE.out.top))
 have d0 : V.cell? ⟨w.heap.size + 1 + 1, 0, none⟩ = some (.string (bs [])) := cells_at HA.out.pos 0
 have g0 : V.frozen? ⟨w.heap.size + 1 + 1, 0, none⟩ = false := free_at HA.out.pos 0
 have HA2 := Lib.hid (HA.out.set 0 (.string (bs n1)) ⟨bs n1, 0, bs [], 0, Dt.zero, Dt.zero⟩ rfl)
 clear hb hr
 go_wp2_with fail
 refine (CX.out _ _ HA2.out.rd (HE.out.low (HA2.out.below.mono HE.out.top))).mono ?_
 rintro _ V2 ⟨rfl, hb, hr⟩
 have HB := Lib.hid (HA2.out.call hb hr)
 have e0 : V2.cell? ⟨w.heap.size + 1 + 1, 1, none⟩ = some (.int .i64 0) := cells_at HB.out.pos 1
 have e1 : V2.frozen? ⟨w.heap.size + 1 + 1, 1, none⟩ = false := free_at HB.out.pos 1
 have HB2 := Lib.hid (HB.out.set 1 (.int .i64 (-x0)) ⟨bs n1, -x0, bs [], 0, Dt.zero, Dt.zero⟩ rfl)
 have e2 : V2.cell? ⟨w.heap.size + 1, 0, none⟩ = some (.string (bs l2)) := HB.out.rd.row.1.1
 clear hb hr d0 g0
 go_upto_if 24 with fail
 go_cut [24] (fun _ wx => Psi w Rl Rb Rp wx)
 case first =>
  by_cases hl0 : l2 = []
  · have hg := HG.out
    rw [if_pos (by rw [hl0]; rfl)] at hg
    injection hg with g1 g2 g3
    subst g1 g2 g3 hl0
    have e3 : (bs []).toList.isEmpty = true := (Off.bs_emp rfl).1
    have e4 : (bs []).toList = [] := (Off.bs_emp rfl).2
    have e5 : (!(bs []).toList.isEmpty) = false := by rw [e3]; rfl
    rw [e5]
    clear e5
    go_wp2_with fail
    go_meet
    rw [show (b1 || false || b2) = (false || b1 || b2) by simp]
    exact HB2.out
  · have hg := HG.out
    rw [if_neg (by simpa using hl0)] at hg
    have HG2 := Lib.hid hg
    have e3 : (bs l2).toList.isEmpty = false := Off.bs_full hl0
    have e5 : (!(bs l2).toList.isEmpty) = true := by rw [e3]; rfl
    have CN2 := Lib.hid (fun q w2 h => rd_name (w.heap.size + 1) l2 hl2z q w2 h)
    have hn2 := nmR_le l2
    unfold RdPost at CN2
    obtain ⟨n2, hn⟩ : ∃ x, nmS l2 = x := ⟨_, rfl⟩
    obtain ⟨l3, hl3⟩ : ∃ x, nmR l2 = x := ⟨_, rfl⟩
    obtain ⟨b3, hb3⟩ : ∃ x, nmB l2 = x := ⟨_, rfl⟩
    rw [hn, hl3, hb3] at CN2 HG2
    rw [hl3] at hn2
    have hl3z : l3.length ≤ 1000000 := by omega
    rw [e5]
    clear hg hn hl3 hb3 hl0 e5
    go_wp2_with fail
    refine (CN2.out _ _ HB2.out.rd).mono ?_
    rintro _ V3 ⟨rfl, hb, hr⟩
    have HC := Lib.hid (HB2.out.call hb hr)
    have HC2 := Lib.hid (HC.out.set 2 (.string (bs n2)) ⟨bs n1, -x0, bs n2, 0, Dt.zero, Dt.zero⟩ rfl)
    have c2 : V3.cell? ⟨w.heap.size + 1 + 1, 2, none⟩ = some (.string (bs [])) := cells_at HC.out.pos 2
    have c2f : V3.frozen? ⟨w.heap.size + 1 + 1, 2, none⟩ = false := free_at HC.out.pos 2
    obtain ⟨⟨m0, m1⟩, mf0, mf1⟩ := HC.out.rd.row
    clear hb hr e0 e1 e2 e3
    obtain ⟨q3, hq3⟩ : ∃ q, (false || b1 || b2 || b3) = q := ⟨_, rfl⟩
    rw [hq3] at m1 HC2
    have hg2 := HG2.out
    rw [show (b1 || false || b2 || b3 || n2.isEmpty) = (q3 || n2.isEmpty) by rw [← hq3]; simp] at hg2
    have HG3 := Lib.hid hg2
    clear hq3 hg2 HG2
    go_upto_region 9 with fail
    go_cut [36] (fun _ wx => Psi w l3 (q3 || n2.isEmpty) ⟨bs n1, -x0, bs n2, 0, Dt.zero, Dt.zero⟩ wx)
    case first =>
     cases q3
     · by_cases hn0 : n2 = []
       · have n3 : (bs n2).toList.isEmpty = true := (Off.bs_emp hn0).1
         have n4 : (bs n2).toList = [] := (Off.bs_emp hn0).2
         have HZ := Lib.hid (show (false || n2.isEmpty) = true by rw [hn0]; rfl)
         clear hn0
         go_wp2_with fail
         go_meet
         rw [HZ.out]
         exact HC2.out.setB true
       · have n3 : (bs n2).toList.isEmpty = false := Off.bs_full hn0
         have HZ := Lib.hid (show (false || n2.isEmpty) = false by simpa using hn0)
         clear hn0
         go_wp2_with fail
         go_meet
         rw [HZ.out]
         exact HC2.out.setB false
     · go_wp2_with fail
       go_meet
       exact HC2.out.setB true
    case rest =>
     obtain ⟨q4, hq4⟩ : ∃ q, (q3 || n2.isEmpty) = q := ⟨_, rfl⟩
     rw [hq4] at HG3 hcut
     have HD := Lib.hid hcut
     have c1 : wc.cell? ⟨w.heap.size + 1 + 1, 1, none⟩ = some (.int .i64 (-x0)) := cells_at HD.out.pos 1
     have c3 : wc.cell? ⟨w.heap.size + 1 + 1, 3, none⟩ = some (.int .i64 0) := cells_at HD.out.pos 3
     have c3f : wc.frozen? ⟨w.heap.size + 1 + 1, 3, none⟩ = false := free_at HD.out.pos 3
     have m0 : wc.cell? ⟨w.heap.size + 1, 0, none⟩ = some (.string (bs l3)) := HD.out.rd.row.1.1
     have HD2 := Lib.hid (HD.out.set 3 (.int .i64 (-x0 + 3600)) ⟨bs n1, -x0, bs n2, -x0 + 3600, Dt.zero, Dt.zero⟩ rfl)
     have CP := Lib.hid (Tryz.strings_HasPrefix (bs l3) ⟨#[44]⟩)
     rw [bs_list, show (⟨#[44]⟩ : ByteArray).data.toList = [44] from rfl, hasPrefix_next] at CP
     have CX3 := Lib.hid (fun q w2 h hE => rd_seconds (w.heap.size + 1) l3 hl3z q w2 h hE ht)
     unfold RdPost at CX3
     have hb3 := scV_bd l3
     have hcs := dst_cases prF rfl n1 (-x0) n2 l3 q4
     have hsr := scR_le l3
     obtain ⟨x3, hx3⟩ : ∃ x, scV l3 = x := ⟨_, rfl⟩
     obtain ⟨l4, hl4⟩ : ∃ x, scR l3 = x := ⟨_, rfl⟩
     obtain ⟨b4, hb4⟩ : ∃ x, scB l3 = x := ⟨_, rfl⟩
     rw [hx3, hl4, hb4] at CX3 hcs
     rw [hx3] at hb3
     rw [hl4] at hsr
     obtain ⟨x30, x31⟩ := hb3
     have hl4z : l4.length ≤ 1000000 := by omega
     clear hcut hq4 hx3 hl4 hb4 hsr
     rcases hcs with ⟨hs, hd⟩ | ⟨hs, hd⟩
     · rw [hs] at CP
       have HG4 := Lib.hid (HG3.out.trans hd.out)
       clear hs hd HG3 CX3
       have CW := Lib.hid (fun q => want_any 44 (w.heap.size + 1) l3 q)
       have hz5 : (nextR 44 l3).length ≤ 1000000 := Nat.le_trans (nextR_le 44 l3) (by omega)
       have CD := Lib.hid (fun q w2 h hE => rd_date (w.heap.size + 1) (nextR 44 l3) hz5 q w2 h hE ht)
       unfold datesG at HG4
       have hz6 := dateG_le prF (nextR 44 l3)
       obtain ⟨l5, hl5⟩ : ∃ x, nextR 44 l3 = x := ⟨_, rfl⟩
       obtain ⟨w5, hw5⟩ : ∃ x, nextB 44 l3 = x := ⟨_, rfl⟩
       rw [hl5] at CW CD HG4 hz5 hz6
       rw [hw5] at CW HG4
       obtain ⟨D1, hD1⟩ : ∃ x, dateG prF l5 = x := ⟨_, rfl⟩
       rw [hD1] at CD HG4 hz6
       obtain ⟨⟨k1, d1, m1, y1, s1⟩, l6, bb1⟩ := D1
       dsimp only at HG4 hz6
       have CW2 := Lib.hid (fun q => want_any 44 (w.heap.size + 1) l6 q)
       have hz7 : (nextR 44 l6).length ≤ 1000000 := Nat.le_trans (nextR_le 44 l6) (by omega)
       have CD2 := Lib.hid (fun q w2 h hE => rd_date (w.heap.size + 1) (nextR 44 l6) hz7 q w2 h hE ht)
       obtain ⟨l7, hl7⟩ : ∃ x, nextR 44 l6 = x := ⟨_, rfl⟩
       obtain ⟨w7, hw7⟩ : ∃ x, nextB 44 l6 = x := ⟨_, rfl⟩
       rw [hl7] at CW2 CD2 HG4
       rw [hw7] at CW2 HG4
       obtain ⟨D2, hD2⟩ : ∃ x, dateG prF l7 = x := ⟨_, rfl⟩
       rw [hD2] at CD2 HG4
       obtain ⟨⟨k2, d2, m2, y2, s2⟩, l8, bb2⟩ := D2
       unfold DtPost Dt.val at CD CD2
       unfold RdPost at CW CW2
       dsimp only at HG4 CD CD2
       have hg4 := HG4.out
       injection hg4 with p1 p2 p3
       have P1 := Lib.hid p1
       have P2 := Lib.hid p2
       have P3 := Lib.hid p3
       clear hl5 hw5 hD1 hl7 hw7 hD2 hz5 hz6 hz7 p1 p2 p3 HG4
       go_wp2_with fail
       refine (CP.out _).mono ?_
       rintro _ _ ⟨rfl, rfl⟩
       go_wp2_with fail
       refine (CW.out _ _ HD2.out.rd).mono ?_
       rintro _ V5 ⟨_, rfl, hb, hr⟩
       have HH := Lib.hid (HD2.out.call hb hr)
       clear hb hr c1 c3 c3f m0
       go_wp2_with fail
       refine (CD.out _ _ HH.out.rd (HE.out.low (HH.out.below.mono HE.out.top))).mono ?_
       rintro _ V6 ⟨rfl, hb, hr⟩
       have HJ := Lib.hid (HH.out.call hb hr)
       have j4 : V6.cell? ⟨w.heap.size + 1 + 1, 4, none⟩ = some (.int .i64 0) := cells_at HJ.out.pos 4
       have j5 : V6.cell? ⟨w.heap.size + 1 + 1, 5, none⟩ = some (.int .i64 0) := cells_at HJ.out.pos 5
       have j6 : V6.cell? ⟨w.heap.size + 1 + 1, 6, none⟩ = some (.int .i64 0) := cells_at HJ.out.pos 6
       have j7 : V6.cell? ⟨w.heap.size + 1 + 1, 7, none⟩ = some (.int .i64 0) := cells_at HJ.out.pos 7
       have j8 : V6.cell? ⟨w.heap.size + 1 + 1, 8, none⟩ = some (.int .i64 0) := cells_at HJ.out.pos 8
       have f4 : V6.frozen? ⟨w.heap.size + 1 + 1, 4, none⟩ = false := free_at HJ.out.pos 4
       have f5 : V6.frozen? ⟨w.heap.size + 1 + 1, 5, none⟩ = false := free_at HJ.out.pos 5
       have f6 : V6.frozen? ⟨w.heap.size + 1 + 1, 6, none⟩ = false := free_at HJ.out.pos 6
       have f7 : V6.frozen? ⟨w.heap.size + 1 + 1, 7, none⟩ = false := free_at HJ.out.pos 7
       have f8 : V6.frozen? ⟨w.heap.size + 1 + 1, 8, none⟩ = false := free_at HJ.out.pos 8
       have HJ2 := Lib.hid (((((HJ.out.set 4 (.int .i64 k1) ⟨bs n1, -x0, bs n2, (-x0 + 3600), ⟨k1, 0, 0, 0, 0⟩, Dt.zero⟩ rfl).set 5 (.int .i64 d1) ⟨bs n1, -x0, bs n2, (-x0 + 3600), ⟨k1, d1, 0, 0, 0⟩, Dt.zero⟩ rfl).set 6 (.int .i64 m1) ⟨bs n1, -x0, bs n2, (-x0 + 3600), ⟨k1, d1, m1, 0, 0⟩, Dt.zero⟩ rfl).set 7 (.int .i64 y1) ⟨bs n1, -x0, bs n2, (-x0 + 3600), ⟨k1, d1, m1, y1, 0⟩, Dt.zero⟩ rfl).set 8 (.int .i64 s1) ⟨bs n1, -x0, bs n2, (-x0 + 3600), ⟨k1, d1, m1, y1, s1⟩, Dt.zero⟩ rfl)
       clear hb hr
       go_wp2_with fail
       refine (CW2.out _ _ HJ2.out.rd).mono ?_
       rintro _ V7 ⟨_, rfl, hb, hr⟩
       have HK := Lib.hid (HJ2.out.call hb hr)
       clear hb hr j4 j5 j6 j7 j8 f4 f5 f6 f7 f8
       go_wp2_with fail
       refine (CD2.out _ _ HK.out.rd (HE.out.low (HK.out.below.mono HE.out.top))).mono ?_
       rintro _ V8 ⟨rfl, hb, hr⟩
       have HL := Lib.hid (HK.out.call hb hr)
       have j4 : V8.cell? ⟨w.heap.size + 1 + 1, 9, none⟩ = some (.int .i64 0) := cells_at HL.out.pos 9
       have j5 : V8.cell? ⟨w.heap.size + 1 + 1, 10, none⟩ = some (.int .i64 0) := cells_at HL.out.pos 10
       have j6 : V8.cell? ⟨w.heap.size + 1 + 1, 11, none⟩ = some (.int .i64 0) := cells_at HL.out.pos 11
       have j7 : V8.cell? ⟨w.heap.size + 1 + 1, 12, none⟩ = some (.int .i64 0) := cells_at HL.out.pos 12
       have j8 : V8.cell? ⟨w.heap.size + 1 + 1, 13, none⟩ = some (.int .i64 0) := cells_at HL.out.pos 13
       have f4 : V8.frozen? ⟨w.heap.size + 1 + 1, 9, none⟩ = false := free_at HL.out.pos 9
       have f5 : V8.frozen? ⟨w.heap.size + 1 + 1, 10, none⟩ = false := free_at HL.out.pos 10
       have f6 : V8.frozen? ⟨w.heap.size + 1 + 1, 11, none⟩ = false := free_at HL.out.pos 11
       have f7 : V8.frozen? ⟨w.heap.size + 1 + 1, 12, none⟩ = false := free_at HL.out.pos 12
       have f8 : V8.frozen? ⟨w.heap.size + 1 + 1, 13, none⟩ = false := free_at HL.out.pos 13
       have HL2 := Lib.hid (((((HL.out.set 9 (.int .i64 k2) ⟨bs n1, -x0, bs n2, (-x0 + 3600), ⟨k1, d1, m1, y1, s1⟩, ⟨k2, 0, 0, 0, 0⟩⟩ rfl).set 10 (.int .i64 d2) ⟨bs n1, -x0, bs n2, (-x0 + 3600), ⟨k1, d1, m1, y1, s1⟩, ⟨k2, d2, 0, 0, 0⟩⟩ rfl).set 11 (.int .i64 m2) ⟨bs n1, -x0, bs n2, (-x0 + 3600), ⟨k1, d1, m1, y1, s1⟩, ⟨k2, d2, m2, 0, 0⟩⟩ rfl).set 12 (.int .i64 y2) ⟨bs n1, -x0, bs n2, (-x0 + 3600), ⟨k1, d1, m1, y1, s1⟩, ⟨k2, d2, m2, y2, 0⟩⟩ rfl).set 13 (.int .i64 s2) ⟨bs n1, -x0, bs n2, (-x0 + 3600), ⟨k1, d1, m1, y1, s1⟩, ⟨k2, d2, m2, y2, s2⟩⟩ rfl)
       clear hb hr
       go_wp2_with fail
       go_meet
       rw [P1.out, P2.out, P3.out]
       exact HL2.out
     · rw [hs] at CP
       have HG4 := Lib.hid (HG3.out.trans hd.out)
       clear hs hd HG3
       have CW := Lib.hid (fun q => want_any 44 (w.heap.size + 1) l4 q)
       have hz5 : (nextR 44 l4).length ≤ 1000000 := Nat.le_trans (nextR_le 44 l4) (by omega)
       have CD := Lib.hid (fun q w2 h hE => rd_date (w.heap.size + 1) (nextR 44 l4) hz5 q w2 h hE ht)
       unfold datesG at HG4
       have hz6 := dateG_le prF (nextR 44 l4)
       obtain ⟨l5, hl5⟩ : ∃ x, nextR 44 l4 = x := ⟨_, rfl⟩
       obtain ⟨w5, hw5⟩ : ∃ x, nextB 44 l4 = x := ⟨_, rfl⟩
       rw [hl5] at CW CD HG4 hz5 hz6
       rw [hw5] at CW HG4
       obtain ⟨D1, hD1⟩ : ∃ x, dateG prF l5 = x := ⟨_, rfl⟩
       rw [hD1] at CD HG4 hz6
       obtain ⟨⟨k1, d1, m1, y1, s1⟩, l6, bb1⟩ := D1
       dsimp only at HG4 hz6
       have CW2 := Lib.hid (fun q => want_any 44 (w.heap.size + 1) l6 q)
       have hz7 : (nextR 44 l6).length ≤ 1000000 := Nat.le_trans (nextR_le 44 l6) (by omega)
       have CD2 := Lib.hid (fun q w2 h hE => rd_date (w.heap.size + 1) (nextR 44 l6) hz7 q w2 h hE ht)
       obtain ⟨l7, hl7⟩ : ∃ x, nextR 44 l6 = x := ⟨_, rfl⟩
       obtain ⟨w7, hw7⟩ : ∃ x, nextB 44 l6 = x := ⟨_, rfl⟩
       rw [hl7] at CW2 CD2 HG4
       rw [hw7] at CW2 HG4
       obtain ⟨D2, hD2⟩ : ∃ x, dateG prF l7 = x := ⟨_, rfl⟩
       rw [hD2] at CD2 HG4
       obtain ⟨⟨k2, d2, m2, y2, s2⟩, l8, bb2⟩ := D2
       unfold DtPost Dt.val at CD CD2
       unfold RdPost at CW CW2
       dsimp only at HG4 CD CD2
       have hg4 := HG4.out
       injection hg4 with p1 p2 p3
       have P1 := Lib.hid p1
       have P2 := Lib.hid p2
       have P3 := Lib.hid p3
       clear hl5 hw5 hD1 hl7 hw7 hD2 hz5 hz6 hz7 p1 p2 p3 HG4
       go_wp2_with fail
       refine (CP.out _).mono ?_
       rintro _ _ ⟨rfl, rfl⟩
       go_wp2_with fail
       refine (CX3.out _ _ HD2.out.rd (HE.out.low (HD2.out.below.mono HE.out.top))).mono ?_
       rintro _ V4 ⟨rfl, hb, hr⟩
       have HF := Lib.hid (HD2.out.call hb hr)
       have e3 : V4.cell? ⟨w.heap.size + 1 + 1, 3, none⟩ = some (.int .i64 (-x0 + 3600)) := cells_at HF.out.pos 3
       have e3f : V4.frozen? ⟨w.heap.size + 1 + 1, 3, none⟩ = false := free_at HF.out.pos 3
       have HF2 := Lib.hid (HF.out.set 3 (.int .i64 (-x3)) ⟨bs n1, -x0, bs n2, -x3, Dt.zero, Dt.zero⟩ rfl)
       clear hb hr c1 c3 c3f m0
       go_wp2_with fail
       refine (CW.out _ _ HF2.out.rd).mono ?_
       rintro _ V5 ⟨_, rfl, hb, hr⟩
       have HH := Lib.hid (HF2.out.call hb hr)
       clear hb hr e3 e3f
       go_wp2_with fail
       refine (CD.out _ _ HH.out.rd (HE.out.low (HH.out.below.mono HE.out.top))).mono ?_
       rintro _ V6 ⟨rfl, hb, hr⟩
       have HJ := Lib.hid (HH.out.call hb hr)
       have j4 : V6.cell? ⟨w.heap.size + 1 + 1, 4, none⟩ = some (.int .i64 0) := cells_at HJ.out.pos 4
       have j5 : V6.cell? ⟨w.heap.size + 1 + 1, 5, none⟩ = some (.int .i64 0) := cells_at HJ.out.pos 5
       have j6 : V6.cell? ⟨w.heap.size + 1 + 1, 6, none⟩ = some (.int .i64 0) := cells_at HJ.out.pos 6
       have j7 : V6.cell? ⟨w.heap.size + 1 + 1, 7, none⟩ = some (.int .i64 0) := cells_at HJ.out.pos 7
       have j8 : V6.cell? ⟨w.heap.size + 1 + 1, 8, none⟩ = some (.int .i64 0) := cells_at HJ.out.pos 8
       have f4 : V6.frozen? ⟨w.heap.size + 1 + 1, 4, none⟩ = false := free_at HJ.out.pos 4
       have f5 : V6.frozen? ⟨w.heap.size + 1 + 1, 5, none⟩ = false := free_at HJ.out.pos 5
       have f6 : V6.frozen? ⟨w.heap.size + 1 + 1, 6, none⟩ = false := free_at HJ.out.pos 6
       have f7 : V6.frozen? ⟨w.heap.size + 1 + 1, 7, none⟩ = false := free_at HJ.out.pos 7
       have f8 : V6.frozen? ⟨w.heap.size + 1 + 1, 8, none⟩ = false := free_at HJ.out.pos 8
       have HJ2 := Lib.hid (((((HJ.out.set 4 (.int .i64 k1) ⟨bs n1, -x0, bs n2, (-x3), ⟨k1, 0, 0, 0, 0⟩, Dt.zero⟩ rfl).set 5 (.int .i64 d1) ⟨bs n1, -x0, bs n2, (-x3), ⟨k1, d1, 0, 0, 0⟩, Dt.zero⟩ rfl).set 6 (.int .i64 m1) ⟨bs n1, -x0, bs n2, (-x3), ⟨k1, d1, m1, 0, 0⟩, Dt.zero⟩ rfl).set 7 (.int .i64 y1) ⟨bs n1, -x0, bs n2, (-x3), ⟨k1, d1, m1, y1, 0⟩, Dt.zero⟩ rfl).set 8 (.int .i64 s1) ⟨bs n1, -x0, bs n2, (-x3), ⟨k1, d1, m1, y1, s1⟩, Dt.zero⟩ rfl)
       clear hb hr
       go_wp2_with fail
       refine (CW2.out _ _ HJ2.out.rd).mono ?_
       rintro _ V7 ⟨_, rfl, hb, hr⟩
       have HK := Lib.hid (HJ2.out.call hb hr)
       clear hb hr j4 j5 j6 j7 j8 f4 f5 f6 f7 f8
       go_wp2_with fail
       refine (CD2.out _ _ HK.out.rd (HE.out.low (HK.out.below.mono HE.out.top))).mono ?_
       rintro _ V8 ⟨rfl, hb, hr⟩
       have HL := Lib.hid (HK.out.call hb hr)
       have j4 : V8.cell? ⟨w.heap.size + 1 + 1, 9, none⟩ = some (.int .i64 0) := cells_at HL.out.pos 9
       have j5 : V8.cell? ⟨w.heap.size + 1 + 1, 10, none⟩ = some (.int .i64 0) := cells_at HL.out.pos 10
       have j6 : V8.cell? ⟨w.heap.size + 1 + 1, 11, none⟩ = some (.int .i64 0) := cells_at HL.out.pos 11
       have j7 : V8.cell? ⟨w.heap.size + 1 + 1, 12, none⟩ = some (.int .i64 0) := cells_at HL.out.pos 12
       have j8 : V8.cell? ⟨w.heap.size + 1 + 1, 13, none⟩ = some (.int .i64 0) := cells_at HL.out.pos 13
       have f4 : V8.frozen? ⟨w.heap.size + 1 + 1, 9, none⟩ = false := free_at HL.out.pos 9
       have f5 : V8.frozen? ⟨w.heap.size + 1 + 1, 10, none⟩ = false := free_at HL.out.pos 10
       have f6 : V8.frozen? ⟨w.heap.size + 1 + 1, 11, none⟩ = false := free_at HL.out.pos 11
       have f7 : V8.frozen? ⟨w.heap.size + 1 + 1, 12, none⟩ = false := free_at HL.out.pos 12
       have f8 : V8.frozen? ⟨w.heap.size + 1 + 1, 13, none⟩ = false := free_at HL.out.pos 13
       have HL2 := Lib.hid (((((HL.out.set 9 (.int .i64 k2) ⟨bs n1, -x0, bs n2, (-x3), ⟨k1, d1, m1, y1, s1⟩, ⟨k2, 0, 0, 0, 0⟩⟩ rfl).set 10 (.int .i64 d2) ⟨bs n1, -x0, bs n2, (-x3), ⟨k1, d1, m1, y1, s1⟩, ⟨k2, d2, 0, 0, 0⟩⟩ rfl).set 11 (.int .i64 m2) ⟨bs n1, -x0, bs n2, (-x3), ⟨k1, d1, m1, y1, s1⟩, ⟨k2, d2, m2, 0, 0⟩⟩ rfl).set 12 (.int .i64 y2) ⟨bs n1, -x0, bs n2, (-x3), ⟨k1, d1, m1, y1, s1⟩, ⟨k2, d2, m2, y2, 0⟩⟩ rfl).set 13 (.int .i64 s2) ⟨bs n1, -x0, bs n2, (-x3), ⟨k1, d1, m1, y1, s1⟩, ⟨k2, d2, m2, y2, s2⟩⟩ rfl)
       clear hb hr
       go_wp2_with fail
       go_meet
       rw [P1.out, P2.out, P3.out]
       exact HL2.out
 case rest =>
  have HA0 := Lib.hid hcut
  have hbw := hcut.below
  have HBW := Lib.hid hbw
  obtain ⟨⟨m0, m1⟩, mf0, mf1⟩ := hcut.rd.row
  have hsz1 := HSZ1.out
  have hsz2 := HSZ2.out
  clear hbw e0 e1 e2
  cases Rb
  · by_cases hl0 : Rl = []
    · have n3 : (bs Rl).toList.isEmpty = true := (Off.bs_emp hl0).1
      have n4 : (bs Rl).toList = [] := (Off.bs_emp hl0).2
      have CC := Lib.hid (check_any Rp (by omega) (by omega))
      have hok : (false || !Rl.isEmpty || !Rp.ok) = !Rp.ok := by rw [hl0]; rfl
      rw [hok] at HFIN
      clear hok
      obtain ⟨ok, hokk⟩ : ∃ o, Rp.ok = o := ⟨_, rfl⟩
      rw [hokk] at CC HFIN
      obtain ⟨a, b, c, d, ⟨k1, d1, m1, w1, s1⟩, ⟨k2, d2, m2, w2, s2⟩⟩ := Rp
      unfold Pos.val at CC
      dsimp only at CC
      obtain ⟨p0, p1, p2, p3, p4, p5, p6, p7, p8, p9, p10, p11, p12, p13⟩ := hcut.prow
      clear hcut hl0 hokk hsz1 hsz2
      go_wp2_with fail
      refine (CC.out _).mono ?_
      rintro _ V9 ⟨rfl, hb⟩
      have HB9 := Lib.hid (HA0.out.keep hb)
      clear hb p0 p1 p2 p3 p4 p5 p6 p7 p8 p9 p10 p11 p12 p13
      obtain ⟨p0, p1, p2, p3, p4, p5, p6, p7, p8, p9, p10, p11, p12, p13⟩ := HB9.out.prow
      obtain ⟨⟨r0, r1, r2, r3, r4, r5, r6, r7, r8, r9, r10, r11, r12, r13⟩, ⟨f0, f1, f2, f3, f4, f5, f6, f7, f8, f9, f10, f11, f12, f13⟩⟩ := HB9.out.rrow
      cases ok
      · rw [show codeE false = 2 from rfl]
        have hff : FF = (Pos.zero, 5) := HFIN.out
        have HFF := Lib.hid hff
        clear hff
        go_wp2_with fail
        refine bodyPost_ret (v := .tuple #[.agg #[.string ⟨#[]⟩, .int .i64 0, .string ⟨#[]⟩, .int .i64 0, .int .i64 0, .int .i64 0, .int .i64 0, .int .i64 0, .int .i64 0, .int .i64 0, .int .i64 0, .int .i64 0, .int .i64 0, .int .i64 0], .int .i64 5]) (by simp [results, Tryz.results20, go_sem, r0, r1, r2, r3, r4, r5, r6, r7, r8, r9, r10, r11, r12, r13]) rfl ?_
        refine ⟨by rw [HFF.out]; rfl, ?_⟩
        exact (((((((((((((HB9.out.below.setCell (by simp) _).setCell (by simp) _).setCell (by simp) _).setCell (by simp) _).setCell (by simp) _).setCell (by simp) _).setCell (by simp) _).setCell (by simp) _).setCell (by simp) _).setCell (by simp) _).setCell (by simp) _).setCell (by simp) _).setCell (by simp) _).setCell (by simp) _
      · rw [show codeE true = 0 from rfl]
        have hff : FF = (⟨a, b, c, d, ⟨k1, d1, m1, w1, s1⟩, ⟨k2, d2, m2, w2, s2⟩⟩, 0) := HFIN.out
        have HFF := Lib.hid hff
        clear hff
        go_wp2_with fail
        refine bodyPost_ret (v := .tuple #[.agg #[.string a, .int .i64 b, .string c, .int .i64 d, .int .i64 k1, .int .i64 d1, .int .i64 m1, .int .i64 w1, .int .i64 s1, .int .i64 k2, .int .i64 d2, .int .i64 m2, .int .i64 w2, .int .i64 s2], .int .i64 0]) (by simp [results, Tryz.results20, go_sem, r0, r1, r2, r3, r4, r5, r6, r7, r8, r9, r10, r11, r12, r13]) rfl ?_
        refine ⟨by rw [HFF.out]; rfl, ?_⟩
        exact (((((((((((((HB9.out.below.setCell (by simp) _).setCell (by simp) _).setCell (by simp) _).setCell (by simp) _).setCell (by simp) _).setCell (by simp) _).setCell (by simp) _).setCell (by simp) _).setCell (by simp) _).setCell (by simp) _).setCell (by simp) _).setCell (by simp) _).setCell (by simp) _).setCell (by simp) _
    · have n3 : (bs Rl).toList.isEmpty = false := Off.bs_full hl0
      have hff : FF = (Pos.zero, 5) := by rw [HFIN.out, show (false || !Rl.isEmpty || !Rp.ok) = true by simp [hl0], if_pos rfl]
      have HFF := Lib.hid hff
      obtain ⟨⟨r0, r1, r2, r3, r4, r5, r6, r7, r8, r9, r10, r11, r12, r13⟩, ⟨f0, f1, f2, f3, f4, f5, f6, f7, f8, f9, f10, f11, f12, f13⟩⟩ := hcut.rrow
      clear hcut hl0 hff hsz1 hsz2
      go_wp2_with fail
      refine bodyPost_ret (v := .tuple #[.agg #[.string ⟨#[]⟩, .int .i64 0, .string ⟨#[]⟩, .int .i64 0, .int .i64 0, .int .i64 0, .int .i64 0, .int .i64 0, .int .i64 0, .int .i64 0, .int .i64 0, .int .i64 0, .int .i64 0, .int .i64 0], .int .i64 5]) (by simp [results, Tryz.results20, go_sem, r0, r1, r2, r3, r4, r5, r6, r7, r8, r9, r10, r11, r12, r13]) rfl ?_
      refine ⟨by rw [HFF.out]; rfl, ?_⟩
      exact (((((((((((((HBW.out.setCell (by simp) _).setCell (by simp) _).setCell (by simp) _).setCell (by simp) _).setCell (by simp) _).setCell (by simp) _).setCell (by simp) _).setCell (by simp) _).setCell (by simp) _).setCell (by simp) _).setCell (by simp) _).setCell (by simp) _).setCell (by simp) _).setCell (by simp) _
  · have hff : FF = (Pos.zero, 5) := by rw [HFIN.out, Bool.true_or, Bool.true_or, if_pos rfl]
    have HFF := Lib.hid hff
    obtain ⟨⟨r0, r1, r2, r3, r4, r5, r6, r7, r8, r9, r10, r11, r12, r13⟩, ⟨f0, f1, f2, f3, f4, f5, f6, f7, f8, f9, f10, f11, f12, f13⟩⟩ := hcut.rrow
    clear hcut hff hsz1 hsz2
    go_wp2_with fail
    refine bodyPost_ret (v := .tuple #[.agg #[.string ⟨#[]⟩, .int .i64 0, .string ⟨#[]⟩, .int .i64 0, .int .i64 0, .int .i64 0, .int .i64 0, .int .i64 0, .int .i64 0, .int .i64 0, .int .i64 0, .int .i64 0, .int .i64 0, .int .i64 0], .int .i64 5]) (by simp [results, Tryz.results20, go_sem, r0, r1, r2, r3, r4, r5, r6, r7, r8, r9, r10, r11, r12, r13]) rfl ?_
    refine ⟨by rw [HFF.out]; rfl, ?_⟩
    exact (((((((((((((HBW.out.setCell (by simp) _).setCell (by simp) _).setCell (by simp) _).setCell (by simp) _).setCell (by simp) _).setCell (by simp) _).setCell (by simp) _).setCell (by simp) _).setCell (by simp) _).setCell (by simp) _).setCell (by simp) _).setCell (by simp) _).setCell (by simp) _).setCell (by simp) _
set_option maxHeartbeats 1000000 in
set_option maxRecDepth 100000 in
theorem parse_long (l : List UInt8) (hl : 100 < l.length) (w : World) :
 Calls Tryz.prog 20 #[.string (bs l)] w fun e w' => e = .returned (.tuple #[Pos.zero.val, .int .i64 6]) ∧ Below w.heap.size w w' := by
 have hz := bs_size l
 have i1 : (100 : Int) < ((bs l).size : Int) := by omega
 have i2 : (100 : Int) < (l.length : Int) := by omega
 go_enter Tryz.func20, Tryz.ntmps20
 go_wp2_with fail
 refine bodyPost_ret (v := .tuple #[.agg #[.string ⟨#[]⟩, .int .i64 0, .string ⟨#[]⟩, .int .i64 0, .int .i64 0, .int .i64 0, .int .i64 0, .int .i64 0, .int .i64 0, .int .i64 0, .int .i64 0, .int .i64 0, .int .i64 0, .int .i64 0], .int .i64 6]) (by simp [results, Tryz.results20, go_sem]) rfl ?_
 exact ⟨rfl, (Below.refl _ _).alloc (Nat.le_refl _) _⟩
theorem parse_any (l : List UInt8) (w : World) (hE : EnvAt w) :
 Calls Tryz.prog 20 #[.string (bs l)] w fun e w' => e = .returned (.tuple #[(finG prF l).1.val, .int .i64 (finG prF l).2]) ∧ Below w.heap.size w w' := by
 unfold finG
 by_cases h : 100 < l.length
 · rw [if_pos h]; exact parse_long l h w
 · rw [if_neg h]; exact parse_short l w hE (by omega)
end Go.Proofs.YtkpmmabdpeobaaaGreatDoor.Px
