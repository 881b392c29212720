/- The methods seconds, number and date of posix.reader. -/
import Derived.Test.YtgllbagmmpicaaaGreatDoorPrQ
import Derived.Test.YtgllbagmmpicaaaGreatDoorOffW
import Derived.Test.YtgllbagmmpicaaaGreatDoorOffX
import Derived.Deep.CutBlock
import Derived.Deep.DeepCutAuto
import Derived.Outline
namespace Go.Proofs.YtgllbagmmpicaaaGreatDoor.Px
open Go.RowKit
open Civ
open Off (run past digQ parseO parsePost off_parse dec format_any dec_lib)

def secs12 : ByteArray := ⟨#[45, 58, 48, 49, 50, 51, 52, 53, 54, 55, 56, 57]⟩
theorem contains_sec (c : UInt8) : secs12.data.toList.contains c = secQ c :=
  eq_of_beq (every_byte (fun c => secs12.data.toList.contains c == secQ c) (by kernel_rfl) c)
theorem contains_dig (c : UInt8) : Off.digs10.data.toList.contains c = digQ c :=
  eq_of_beq (every_byte (fun c => Off.digs10.data.toList.contains c == digQ c) (by kernel_rfl) c)
theorem run_len (p : UInt8 → Bool) (l : List UInt8) : (run p l).length ≤ l.length := by
  have h := congrArg List.length (run_past p l)
  rw [List.length_append] at h; omega
set_option maxHeartbeats 1000000 in
set_option maxRecDepth 100000 in
theorem rd_seconds (b : Nat) (l : List UInt8) (hl : l.length ≤ 1000000) (q : Bool) (w : World) (h : RdAt w b l q) (hE : EnvAt w) (ht : top ≤ b) :
    Calls Tryz.prog 25 #[.pointer (some ⟨b, 0, none⟩)] w (RdPost w b (.int .i64 (scV l)) (scR l) (q || scB l)) := by
  have CR := Lib.hid (run_any secQ secs12 (by decide) contains_sec (ascii_of_all (by decide)) b l hl q)
  have CP := Lib.hid (fun w hE => off_parse (bs (run secQ l)) (by rw [bs_size]; exact Nat.le_trans (run_len _ _) hl) w hE)
  unfold RdPost at CR
  unfold parsePost at CP
  rw [bs_list] at CP
  unfold scV scR scB
  obtain ⟨x, hx⟩ : ∃ x, (parseO (run secQ l)).1 = x := ⟨_, rfl⟩
  obtain ⟨e, he⟩ : ∃ e, (parseO (run secQ l)).2 = e := ⟨_, rfl⟩
  rw [hx, he] at CP
  rw [hx, he]
  obtain ⟨s, hs⟩ : ∃ s, bs (run secQ l) = s := ⟨_, rfl⟩
  rw [hs] at CR CP
  have HR := Lib.hid h
  have HE := Lib.hid hE
  clear h hE hx he hs
  go_enter Tryz.func25, Tryz.ntmps25
  go_wp2_with fail
  refine (CR.out _ HR.out).mono ?_
  rintro _ V ⟨rfl, hb, hr⟩
  have HB := Lib.hid hb
  have HV := Lib.hid hr
  have HEV := Lib.hid (HE.out.low (hb.low ht))
  clear hb hr
  go_wp2_with fail
  refine (CP.out _ HEV.out).mono ?_
  rintro _ V2 ⟨rfl, hb⟩
  have HB2 := Lib.hid (HB.out.trans (But.of_below hb (Nat.le_of_lt HV.out.lt)))
  have HV2 := Lib.hid (HV.out.keep hb)
  obtain ⟨⟨d0, d1⟩, g0, g1⟩ := (HV.out.keep hb).row
  clear hb
  cases q
  · by_cases he : e = 0
    · subst he
      go_wp2_with fail
      go_ret
      exact ⟨rfl, HB2.out.trans (But.set _ _ _), HV2.out.setB _⟩
    · have t0 : (e != 0) = true := by rw [bne_iff_ne]; exact he
      go_wp2_with fail
      go_ret
      exact ⟨rfl, HB2.out.trans (But.set _ _ _), by rw [decide_eq_true he]; exact HV2.out.setB _⟩
  · go_wp2_with fail
    go_ret
    exact ⟨rfl, HB2.out.trans (But.set _ _ _), HV2.out.setB _⟩
theorem itoa_any (x : Int) (h0 : -9223372036854775808 ≤ x) (h1 : x ≤ 9223372036854775807) (w : World) (hE : EnvAt w) :
    Calls Tryz.prog 71 #[.int .i64 x] w fun e w' => e = .returned (.string (bs (Lib.itoa x))) ∧ Below w.heap.size w w' := by
  refine (Tryz.strconv_Itoa x h0 h1 w hE.pow).mono ?_
  rintro e w' ⟨rfl, k, os, rfl⟩
  exact ⟨rfl, Lib.below_grow _ _ (Nat.le_refl _) _ _⟩
theorem atoi_ok (l : List UInt8) (hl : l.length ≤ 1000000) (v : Int) (h : Lib.atoiAll l = .ok v) (w : World) :
    Calls Tryz.prog 93 #[.string (bs l)] w fun e w' => e = .returned (.tuple #[.int .i64 v, .nilIface]) ∧ Below w.heap.size w w' := by
  refine (Tryz.strconv_Atoi_ok (bs l) (by rw [bs_size]; omega) v (by rw [bs_list]; exact h) w).mono ?_
  rintro e w' ⟨rfl, h⟩
  refine ⟨rfl, ?_⟩
  rcases h with rfl | ⟨t, rfl⟩
  · exact Below.refl _ _
  · exact Lib.bytesWorld_below _ _ _
theorem atoi_syn (l : List UInt8) (hl : l.length ≤ 1000000) (h : Lib.atoiAll l = Lib.atoiAll []) (w : World) (hE : EnvAt w) :
    Calls Tryz.prog 93 #[.string (bs l)] w fun e w' => (∃ N, e = .returned (.tuple #[.int .i64 0, .iface 148 (.pointer (some ⟨N, 0, none⟩))])) ∧ Below w.heap.size w w' := by
  obtain ⟨te, pe, hv⟩ := hE.syn
  refine (Tryz.strconv_Atoi_syntax (bs l) (by rw [bs_size]; omega) (by rw [bs_list]; exact h) (.iface te pe) w hv (.inr ⟨te, pe, rfl⟩)).mono ?_
  rintro e w' ⟨N, rfl, _, _, h⟩
  exact ⟨⟨N, rfl⟩, h⟩
theorem atoi_rng (l : List UInt8) (hl : l.length ≤ 1000000) (h : Lib.atoiAll l = .range) (w : World) (hE : EnvAt w) :
    Calls Tryz.prog 93 #[.string (bs l)] w fun e w' => (∃ N, e = .returned (.tuple #[.int .i64 (Lib.atoiSat l), .iface 148 (.pointer (some ⟨N, 0, none⟩))])) ∧ Below w.heap.size w w' := by
  obtain ⟨te, pe, hv⟩ := hE.rng
  refine (Tryz.strconv_Atoi_range (bs l) (by rw [bs_size]; omega) (by rw [bs_list]; exact h) (.iface te pe) w hv (.inr ⟨te, pe, rfl⟩)).mono ?_
  rintro e w' ⟨N, rfl, _, _, h⟩
  rw [bs_list]
  exact ⟨⟨N, rfl⟩, h⟩
theorem atoi_bd {l : List UInt8} {v : Int} (h : Lib.atoiAll l = .ok v) : -9223372036854775808 ≤ v ∧ v ≤ 9223372036854775807 := by
  rw [← Lib.parseIntB_64] at h
  have := Lib.parseIntB_bounds h
  have e : (((2 : Nat) ^ (64 - 1) : Nat) : Int) = 9223372036854775808 := by decide
  rw [e] at this
  omega
theorem ne_bool (a c : List UInt8) : (!(bs a).toList == (bs c).toList) = decide (a ≠ c) := by
  rw [ByteArray.toList_eq, ByteArray.toList_eq, bs_list, bs_list]
  by_cases h : a = c
  · subst h; simp
  · rw [decide_eq_true h, show (a == c) = false by simpa using h]; rfl
set_option maxHeartbeats 1000000 in
set_option maxRecDepth 100000 in
theorem rd_number (b : Nat) (l : List UInt8) (hl : l.length ≤ 1000000) (q : Bool) (w : World) (h : RdAt w b l q) (hE : EnvAt w) (ht : top ≤ b) :
    Calls Tryz.prog 61 #[.pointer (some ⟨b, 0, none⟩)] w (RdPost w b (.int .i64 (prF.v l)) (nuR l) (q || prF.b l)) := by
  have CR := Lib.hid (run_any digQ Off.digs10 (by decide) contains_dig (ascii_of_all (by decide)) b l hl q)
  unfold RdPost at CR
  have hsl := Nat.le_trans (run_len digQ l) hl
  have ev : prF.v l = numV (run digQ l) := rfl
  have eb : prF.b l = numB (run digQ l) := rfl
  rw [ev, eb]
  unfold nuR
  obtain ⟨s, hs⟩ : ∃ s, run digQ l = s := ⟨_, rfl⟩
  rw [hs] at CR hsl
  rw [hs]
  have HR := Lib.hid h
  have HE := Lib.hid hE
  clear h hE hs ev eb
  rcases ha : Lib.atoiAll s with v | _ | _
  ·
    have CA := Lib.hid (fun w => atoi_ok s hsl v ha w)
    have hv := atoi_bd ha
    have CI := Lib.hid (fun w hE => itoa_any v hv.1 hv.2 w hE)
    have HN := Lib.hid (show numV s = v ∧ numB s = decide (Lib.itoa v ≠ s) by unfold numV numB; rw [ha]; exact ⟨rfl, rfl⟩)
    rw [HN.out.1, HN.out.2]
    clear ha hv
    go_enter Tryz.func61, Tryz.ntmps61
    go_wp2_with fail
    refine (CR.out _ HR.out).mono ?_
    rintro _ V ⟨rfl, hb, hr⟩
    have HB := Lib.hid hb
    have HV := Lib.hid hr
    have HEV := Lib.hid (HE.out.low (hb.low ht))
    clear hb hr
    go_wp2_with fail
    refine (CA.out _).mono ?_
    rintro _ V2 ⟨rfl, hb⟩
    have HB2 := Lib.hid (HB.out.trans (But.of_below hb (Nat.le_of_lt HV.out.lt)))
    have HV2 := Lib.hid (HV.out.keep hb)
    have HEV2 := Lib.hid (HEV.out.keep hb)
    obtain ⟨⟨d0, d1⟩, g0, g1⟩ := (HV.out.keep hb).row
    clear hb
    cases q
    · go_wp2_with fail
      refine (CI.out _ HEV2.out).mono ?_
      rintro _ V3 ⟨rfl, hb⟩
      have HB3 := Lib.hid (HB2.out.trans (But.of_below hb (Nat.le_of_lt HV2.out.lt)))
      have HV3 := Lib.hid (HV2.out.keep hb)
      clear d0 d1 g0 g1
      obtain ⟨⟨d0, d1⟩, g0, g1⟩ := (HV2.out.keep hb).row
      clear hb
      have hne := ne_bool (Lib.itoa v) s
      have HNE := Lib.hid hne
      clear hne
      go_wp2_with fail
      go_ret
      refine ⟨rfl, HB3.out.trans (But.set _ _ _), ?_⟩
      rw [Bool.false_or, ← HNE.out]
      exact HV3.out.setB _
    · go_wp2_with fail
      go_ret
      exact ⟨rfl, HB2.out.trans (But.set _ _ _), HV2.out.setB _⟩
  ·
    have CA := Lib.hid (fun w hE => atoi_syn s hsl ha w hE)
    have HN := Lib.hid (show numV s = 0 ∧ numB s = true by unfold numV numB; rw [ha]; exact ⟨rfl, rfl⟩)
    rw [HN.out.1, HN.out.2]
    clear ha
    go_enter Tryz.func61, Tryz.ntmps61
    go_wp2_with fail
    refine (CR.out _ HR.out).mono ?_
    rintro _ V ⟨rfl, hb, hr⟩
    have HB := Lib.hid hb
    have HV := Lib.hid hr
    have HEV := Lib.hid (HE.out.low (hb.low ht))
    clear hb hr
    go_wp2_with fail
    refine (CA.out _ HEV.out).mono ?_
    rintro _ V2 ⟨⟨N, rfl⟩, hb⟩
    have HB2 := Lib.hid (HB.out.trans (But.of_below hb (Nat.le_of_lt HV.out.lt)))
    have HV2 := Lib.hid (HV.out.keep hb)
    obtain ⟨⟨d0, d1⟩, g0, g1⟩ := (HV.out.keep hb).row
    clear hb
    cases q
    all_goals
      go_wp2_with fail
      go_ret
      exact ⟨rfl, HB2.out.trans (But.set _ _ _), HV2.out.setB _⟩
  ·
    have CA := Lib.hid (fun w hE => atoi_rng s hsl ha w hE)
    have HN := Lib.hid (show numV s = Lib.atoiSat s ∧ numB s = true by unfold numV numB; rw [ha]; exact ⟨rfl, rfl⟩)
    rw [HN.out.1, HN.out.2]
    obtain ⟨v, hv⟩ : ∃ v, Lib.atoiSat s = v := ⟨_, rfl⟩
    rw [hv] at CA
    rw [hv]
    clear ha hv
    go_enter Tryz.func61, Tryz.ntmps61
    go_wp2_with fail
    refine (CR.out _ HR.out).mono ?_
    rintro _ V ⟨rfl, hb, hr⟩
    have HB := Lib.hid hb
    have HV := Lib.hid hr
    have HEV := Lib.hid (HE.out.low (hb.low ht))
    clear hb hr
    go_wp2_with fail
    refine (CA.out _ HEV.out).mono ?_
    rintro _ V2 ⟨⟨N, rfl⟩, hb⟩
    have HB2 := Lib.hid (HB.out.trans (But.of_below hb (Nat.le_of_lt HV.out.lt)))
    have HV2 := Lib.hid (HV.out.keep hb)
    obtain ⟨⟨d0, d1⟩, g0, g1⟩ := (HV.out.keep hb).row
    clear hb
    cases q
    all_goals
      go_wp2_with fail
      go_ret
      exact ⟨rfl, HB2.out.trans (But.set _ _ _), HV2.out.setB _⟩
/-- a date and a reader's state behind it -/
def DtPost (w : World) (b : Nat) (r : Dr) (q : Bool) (e : Ending) (w' : World) : Prop := e = .returned r.d.val ∧ But b w w' ∧ RdAt w' b r.l (q || r.b)
/-- the blocks of the function date -/
structure Rdi (w : World) (b : Nat) (l : List UInt8) (q : Bool) (k d m x s : Int) (wr : World) : Prop where
  but : But b w wr
  rd : RdAt wr b l q
  res : wr.heap[w.heap.size]? = some (.cells #[.int .i64 0, .int .i64 0, .int .i64 0, .int .i64 0, .int .i64 0] 23 (0, 0))
  dt : wr.heap[w.heap.size + 1]? = some (.cells #[.int .i64 k, .int .i64 d, .int .i64 m, .int .i64 x, .int .i64 s] 23 (0, 0))
theorem Rdi.call {w : World} {b : Nat} {l l' : List UInt8} {q q' : Bool} {k d m x s : Int} {wr W : World} (h : Rdi w b l q k d m x s wr) (hlt : b < w.heap.size) (hB : But b wr W) (hr : RdAt W b l' q') : Rdi w b l' q' k d m x s W :=
  ⟨h.but.trans hB, hr, hB.heap h.res (by omega), hB.heap h.dt (by omega)⟩
theorem Rdi.row {w : World} {b : Nat} {l : List UInt8} {q : Bool} {k d m x s : Int} {wr : World} (h : Rdi w b l q k d m x s wr) :
    (wr.cell? ⟨w.heap.size + 1, 0, none⟩ = some (.int .i64 k) ∧ wr.cell? ⟨w.heap.size + 1, 1, none⟩ = some (.int .i64 d) ∧ wr.cell? ⟨w.heap.size + 1, 2, none⟩ = some (.int .i64 m) ∧ wr.cell? ⟨w.heap.size + 1, 3, none⟩ = some (.int .i64 x) ∧ wr.cell? ⟨w.heap.size + 1, 4, none⟩ = some (.int .i64 s)) ∧
    wr.frozen? ⟨w.heap.size + 1, 0, none⟩ = false ∧ wr.frozen? ⟨w.heap.size + 1, 1, none⟩ = false ∧ wr.frozen? ⟨w.heap.size + 1, 2, none⟩ = false ∧ wr.frozen? ⟨w.heap.size + 1, 3, none⟩ = false ∧ wr.frozen? ⟨w.heap.size + 1, 4, none⟩ = false :=
  ⟨⟨cells_at h.dt 0, cells_at h.dt 1, cells_at h.dt 2, cells_at h.dt 3, cells_at h.dt 4⟩, free_at h.dt 0, free_at h.dt 1, free_at h.dt 2, free_at h.dt 3, free_at h.dt 4⟩
theorem Rdi.set {w : World} {b : Nat} {l : List UInt8} {q : Bool} {k d m x s : Int} {wr : World} (h : Rdi w b l q k d m x s wr) (hlt : b < w.heap.size) (i : Nat) (u : Value) (k' d' m' x' s' : Int)
    (he : (#[.int .i64 k, .int .i64 d, .int .i64 m, .int .i64 x, .int .i64 s] : Array Value).setIfInBounds i u = #[.int .i64 k', .int .i64 d', .int .i64 m', .int .i64 x', .int .i64 s']) :
    Rdi w b l q k' d' m' x' s' (wr.setCell ⟨w.heap.size + 1, i, none⟩ u) := by
  have hb : But b wr (wr.setCell ⟨w.heap.size + 1, i, none⟩ u) → True := fun _ => trivial
  refine ⟨⟨h.but.below.setCell (by show b ≤ w.heap.size + 1; omega) u, fun j h1 h2 => (Below.heap_setCell _ _ _ _ (by show j ≠ w.heap.size + 1; omega)).trans (h.but.above j h1 h2)⟩, ?_, ?_, ?_⟩
  · exact (Below.heap_setCell _ _ _ _ (by show b ≠ w.heap.size + 1; omega)).trans h.rd
  · exact (Below.heap_setCell _ _ _ _ (by show w.heap.size ≠ w.heap.size + 1; omega)).trans h.res
  · rw [← he]; exact cells_set h.dt i u
theorem Rdi.rrow {w : World} {b : Nat} {l : List UInt8} {q : Bool} {k d m x s : Int} {wr : World} (h : Rdi w b l q k d m x s wr) :
    (wr.cell? ⟨w.heap.size, 0, none⟩ = some (.int .i64 0) ∧ wr.cell? ⟨w.heap.size, 1, none⟩ = some (.int .i64 0) ∧ wr.cell? ⟨w.heap.size, 2, none⟩ = some (.int .i64 0) ∧ wr.cell? ⟨w.heap.size, 3, none⟩ = some (.int .i64 0) ∧ wr.cell? ⟨w.heap.size, 4, none⟩ = some (.int .i64 0)) ∧
    wr.frozen? ⟨w.heap.size, 0, none⟩ = false ∧ wr.frozen? ⟨w.heap.size, 1, none⟩ = false ∧ wr.frozen? ⟨w.heap.size, 2, none⟩ = false ∧ wr.frozen? ⟨w.heap.size, 3, none⟩ = false ∧ wr.frozen? ⟨w.heap.size, 4, none⟩ = false :=
  ⟨⟨cells_at h.res 0, cells_at h.res 1, cells_at h.res 2, cells_at h.res 3, cells_at h.res 4⟩, free_at h.res 0, free_at h.res 1, free_at h.res 2, free_at h.res 3, free_at h.res 4⟩
/-- a reader, and all blocks but it as they were -/
structure RdB (w : World) (b : Nat) (l : List UInt8) (q : Bool) (wr : World) : Prop where
  but : But b w wr
  rd : RdAt wr b l q
theorem RdB.set {w : World} {b : Nat} {l : List UInt8} {q : Bool} {wr : World} (h : RdB w b l q wr) (hlt : b < w.heap.size) (k i : Nat) (hk : w.heap.size ≤ k) (u : Value) : RdB w b l q (wr.setCell ⟨k, i, none⟩ u) :=
  ⟨⟨h.but.below.setCell (by show b ≤ k; omega) u, fun j h1 h2 => (Below.heap_setCell _ _ _ _ (by show j ≠ k; omega)).trans (h.but.above j h1 h2)⟩, (Below.heap_setCell _ _ _ _ (by show b ≠ k; omega)).trans h.rd⟩
theorem Rdi.start (w : World) (b : Nat) (l : List UInt8) (q : Bool) (h : RdAt w b l q) : Rdi w b l q 2 0 0 0 7200 ((w.alloc (.cells #[.int .i64 0, .int .i64 0, .int .i64 0, .int .i64 0, .int .i64 0] 23)).alloc (.cells #[.int .i64 2, .int .i64 0, .int .i64 0, .int .i64 0, .int .i64 7200] 23)) := by
  have hz : (w.alloc (.cells #[.int .i64 0, .int .i64 0, .int .i64 0, .int .i64 0, .int .i64 0] 23)).heap.size = w.heap.size + 1 := by simp
  have hB : Below w.heap.size w ((w.alloc (.cells #[.int .i64 0, .int .i64 0, .int .i64 0, .int .i64 0, .int .i64 0] 23)).alloc (.cells #[.int .i64 2, .int .i64 0, .int .i64 0, .int .i64 0, .int .i64 7200] 23)) := ((Below.refl _ w).alloc (Nat.le_refl _) _).alloc (by simp) _
  refine ⟨But.of_below hB (Nat.le_of_lt h.lt), h.keep hB, heap_old (heap_new w _) _, ?_⟩
  have := heap_new (w.alloc (.cells #[.int .i64 0, .int .i64 0, .int .i64 0, .int .i64 0, .int .i64 0] 23)) (.cells #[.int .i64 2, .int .i64 0, .int .i64 0, .int .i64 0, .int .i64 7200] 23)
  rwa [hz] at this
theorem head_cases (F : Fl) (l : List UInt8) :
    (nextB 74 l = true ∧ nextR 74 l = l.drop 1 ∧ Hid (headG F l = ⟨1, 0, 0, l.drop 1, false⟩)) ∨
    (nextB 74 l = false ∧ nextR 74 l = l ∧ nextB 77 l = true ∧ nextR 77 l = l.drop 1 ∧ Hid (headG F l = ⟨3, F.v (l.drop 1), F.v (nextR 46 (nuR (l.drop 1))), nextR 46 (nuR (nextR 46 (nuR (l.drop 1)))),
      F.b (l.drop 1) || !nextB 46 (nuR (l.drop 1)) || F.b (nextR 46 (nuR (l.drop 1))) || !nextB 46 (nuR (nextR 46 (nuR (l.drop 1))))⟩)) ∨
    (nextB 74 l = false ∧ nextR 74 l = l ∧ nextB 77 l = false ∧ nextR 77 l = l ∧ Hid (headG F l = ⟨2, 0, 0, l, false⟩)) := by
  unfold headG nextR
  cases h1 : nextB 74 l
  · right
    cases h2 : nextB 77 l
    · right; exact ⟨rfl, rfl, rfl, rfl, Lib.hid rfl⟩
    · left; exact ⟨rfl, rfl, rfl, rfl, Lib.hid rfl⟩
  · left; exact ⟨rfl, rfl, Lib.hid rfl⟩
theorem nuR_le (l : List UInt8) : (nuR l).length ≤ l.length := past_le _ _
theorem scR_le (l : List UInt8) : (scR l).length ≤ l.length := past_le _ _
theorem head_le (F : Fl) (l : List UInt8) : (headG F l).l.length ≤ l.length := by
  have h1 : (l.drop 1).length ≤ l.length := by rw [List.length_drop]; omega
  have h2 := nextR_le 46 (nuR (nextR 46 (nuR (l.drop 1))))
  have h3 := nuR_le (nextR 46 (nuR (l.drop 1)))
  have h4 := nextR_le 46 (nuR (l.drop 1))
  have h5 := nuR_le (l.drop 1)
  unfold headG
  split
  · exact h1
  · split
    · dsimp only; omega
    · exact Nat.le_refl _
set_option maxHeartbeats 1000000 in
set_option maxRecDepth 100000 in
theorem rd_date (b : Nat) (l : List UInt8) (hl : l.length ≤ 1000000) (q : Bool) (w : World) (h : RdAt w b l q) (hE : EnvAt w) (ht : top ≤ b) :
    Calls Tryz.prog 28 #[.pointer (some ⟨b, 0, none⟩)] w (DtPost w b (dateG prF l) q) := by
  have hlt := h.lt
  have HI := Lib.hid (Rdi.start w b l q h)
  have HE := Lib.hid hE
  have CJ := Lib.hid (next_any 74 b l q)
  have CM := Lib.hid (next_any 77 b l q)
  unfold RdPost at CJ CM
  have hcs := head_cases prF l
  have HDL := Lib.hid (head_le prF l)
  have HDT := Lib.hid (show dateG prF l = timeG (headG prF l).kind (prF.v (headG prF l).l) (headG prF l).month (headG prF l).week (nuR (headG prF l).l) ((headG prF l).b || prF.b (headG prF l).l) from rfl)
  obtain ⟨H, hH⟩ : ∃ H, headG prF l = H := ⟨_, rfl⟩
  obtain ⟨D, hD⟩ : ∃ D, dateG prF l = D := ⟨_, rfl⟩
  rw [hH] at hcs HDL HDT
  rw [hD] at HDT ⊢
  obtain ⟨hk, hm, hw, hll, hbb⟩ := H
  clear h hE hH hD
  go_enter Tryz.func28, Tryz.ntmps28
  go_upto_block 0 with fail
  go_cut [5] (fun _ wx => Rdi w b hll (q || hbb) hk 0 hm hw 7200 wx)
  case first =>
    rcases hcs with ⟨n1, n2, he⟩ | ⟨n1, n2, n3, n4, he⟩ | ⟨n1, n2, n3, n4, he⟩
    · have he' := he.out
      injection he' with e1 e2 e3 e4 e5
      subst e1 e2 e3 e4 e5
      rw [n1, n2] at CJ
      clear n1 n2
      go_wp2_with fail
      refine (CJ.out _ HI.out.rd).mono ?_
      rintro _ V ⟨rfl, hb, hr⟩
      have HV := Lib.hid (HI.out.call hlt hb hr)
      obtain ⟨⟨d0, d1, d2, d3, d4⟩, g0, g1, g2, g3, g4⟩ := HV.out.row
      clear hb hr
      go_wp2_with fail
      go_meet
      rw [Bool.or_false]
      exact HV.out.set hlt 0 _ 1 0 0 0 7200 rfl
    · rw [n1, n2] at CJ
      rw [n3, n4] at CM
      have k1 : (l.drop 1).length ≤ l.length := by rw [List.length_drop]; omega
      obtain ⟨l1, hl1⟩ : ∃ l1, l.drop 1 = l1 := ⟨_, rfl⟩
      rw [hl1] at CM he k1
      have k2 := nuR_le l1
      have k3 := nextR_le 46 (nuR l1)
      have CN := Lib.hid (fun q w h hE => rd_number b l1 (by omega) q w h hE ht)
      have CW := Lib.hid (fun q => want_any 46 b (nuR l1) q)
      obtain ⟨l3, hl3⟩ : ∃ l3, nextR 46 (nuR l1) = l3 := ⟨_, rfl⟩
      rw [hl3] at CW he k3
      have CN2 := Lib.hid (fun q w h hE => rd_number b l3 (by omega) q w h hE ht)
      have CW2 := Lib.hid (fun q => want_any 46 b (nuR l3) q)
      unfold RdPost at CN CW CN2 CW2
      have he' := he.out
      injection he' with e1 e2 e3 e4 e5
      subst e1 e2 e3 e4 e5
      obtain ⟨v1, hv1⟩ : ∃ v, prF.v l1 = v := ⟨_, rfl⟩
      obtain ⟨v2, hv2⟩ : ∃ v, prF.v l3 = v := ⟨_, rfl⟩
      rw [hv1] at CN
      rw [hv2] at CN2
      have HV1 := Lib.hid hv1
      have HV2 := Lib.hid hv2
      clear n1 n2 n3 n4 hl1 hl3 hv1 hv2
      go_wp2_with fail
      refine (CJ.out _ HI.out.rd).mono ?_
      rintro _ V ⟨rfl, hb, hr⟩
      have HA := Lib.hid (HI.out.call hlt hb hr)
      clear hb hr
      go_wp2_with fail
      refine (CM.out _ HA.out.rd).mono ?_
      rintro _ V2 ⟨rfl, hb, hr⟩
      have HB := Lib.hid (HA.out.call hlt hb hr)
      have HEB := Lib.hid (HE.out.low (HB.out.but.low ht))
      clear hb hr
      go_wp2_with fail
      refine (CN.out q _ HB.out.rd HEB.out).mono ?_
      rintro _ V3 ⟨rfl, hb, hr⟩
      have HC := Lib.hid (HB.out.call hlt hb hr)
      obtain ⟨⟨d0, d1, d2, d3, d4⟩, g0, g1, g2, g3, g4⟩ := HC.out.row
      have HC2 := Lib.hid ((HC.out.set hlt 0 (.int .i64 3) 3 0 0 0 7200 rfl).set hlt 2 (.int .i64 v1) 3 0 v1 0 7200 rfl)
      clear hb hr
      go_wp2_with fail
      refine (CW.out _ _ HC2.out.rd).mono ?_
      rintro _ V4 ⟨_, rfl, hb, hr⟩
      have HD := Lib.hid (HC2.out.call hlt hb hr)
      have HED := Lib.hid (HE.out.low (HD.out.but.low ht))
      clear hb hr d0 d1 d2 d3 d4 g0 g1 g2 g3 g4
      go_wp2_with fail
      refine (CN2.out _ _ HD.out.rd HED.out).mono ?_
      rintro _ V5 ⟨rfl, hb, hr⟩
      have HF := Lib.hid (HD.out.call hlt hb hr)
      obtain ⟨⟨d0, d1, d2, d3, d4⟩, g0, g1, g2, g3, g4⟩ := HF.out.row
      have HF2 := Lib.hid (HF.out.set hlt 3 (.int .i64 v2) 3 0 v1 v2 7200 rfl)
      clear hb hr
      go_wp2_with fail
      refine (CW2.out _ _ HF2.out.rd).mono ?_
      rintro _ V6 ⟨_, rfl, hb, hr⟩
      have HG := Lib.hid (HF2.out.call hlt hb hr)
      clear hb hr d0 d1 d2 d3 d4 g0 g1 g2 g3 g4
      go_wp2_with fail
      go_meet
      rw [HV1.out, HV2.out, show (q || (prF.b l1 || !nextB 46 (nuR l1) || prF.b l3 || !nextB 46 (nuR l3))) = (q || prF.b l1 || !nextB 46 (nuR l1) || prF.b l3 || !nextB 46 (nuR l3)) by simp only [Bool.or_assoc]]
      exact HG.out
    · have he' := he.out
      injection he' with e1 e2 e3 e4 e5
      subst e1 e2 e3 e4 e5
      rw [n1, n2] at CJ
      rw [n3, n4] at CM
      clear n1 n2 n3 n4
      go_wp2_with fail
      refine (CJ.out _ HI.out.rd).mono ?_
      rintro _ V ⟨rfl, hb, hr⟩
      have HA := Lib.hid (HI.out.call hlt hb hr)
      clear hb hr
      go_wp2_with fail
      refine (CM.out _ HA.out.rd).mono ?_
      rintro _ V2 ⟨rfl, hb, hr⟩
      have HB := Lib.hid (HA.out.call hlt hb hr)
      clear hb hr
      go_wp2_with fail
      go_meet
      rw [Bool.or_false]
      exact HB.out
  case rest =>
    have HA := Lib.hid hcut
    have HEA := Lib.hid (HE.out.low (HA.out.but.low ht))
    have hz : hll.length ≤ 1000000 := Nat.le_trans HDL.out hl
    have hz2 := nuR_le hll
    have CN := Lib.hid (fun q w h hE => rd_number b hll hz q w h hE ht)
    have CS := Lib.hid (fun q => next_any 47 b (nuR hll) q)
    have CX := Lib.hid (fun q w h hE => rd_seconds b ((nuR hll).drop 1) (by rw [List.length_drop]; omega) q w h hE ht)
    unfold RdPost at CN CS CX
    dsimp only at HDT
    unfold timeG at HDT
    obtain ⟨v, hv⟩ : ∃ v, prF.v hll = v := ⟨_, rfl⟩
    obtain ⟨bv, hbv⟩ : ∃ v, prF.b hll = v := ⟨_, rfl⟩
    rw [hv, hbv] at CN HDT
    obtain ⟨r, hr0⟩ : ∃ r, nuR hll = r := ⟨_, rfl⟩
    rw [hr0] at CN CS CX HDT
    have hn : (nextB 47 r = true ∧ nextR 47 r = r.drop 1) ∨ (nextB 47 r = false ∧ nextR 47 r = r) := by
      unfold nextR
      cases h : nextB 47 r
      · right; exact ⟨rfl, rfl⟩
      · left; exact ⟨rfl, rfl⟩
    clear hcut hcs hv hbv hr0 CJ CM
    go_wp2_with fail
    refine (CN.out _ _ HA.out.rd HEA.out).mono ?_
    rintro _ V ⟨rfl, hb, hr⟩
    have HB := Lib.hid (HA.out.call hlt hb hr)
    obtain ⟨⟨d0, d1, d2, d3, d4⟩, g0, g1, g2, g3, g4⟩ := HB.out.row
    have HB2 := Lib.hid (HB.out.set hlt 1 (.int .i64 v) hk v hm hw 7200 rfl)
    clear hb hr
    go_wp2_with fail
    refine (CS.out _ _ HB2.out.rd).mono ?_
    rintro _ V2 ⟨rfl, hb, hr⟩
    have HC := Lib.hid (HB2.out.call hlt hb hr)
    clear hb hr d0 d1 d2 d3 d4 g0 g1 g2 g3 g4
    rcases hn with ⟨n1, n2⟩ | ⟨n1, n2⟩
    · rw [n1, if_pos rfl] at HDT
      rw [n2] at HC
      rw [n1]
      have HEC := Lib.hid (HE.out.low (HC.out.but.low ht))
      clear n1 n2
      go_wp2_with fail
      refine (CX.out _ _ HC.out.rd HEC.out).mono ?_
      rintro _ V3 ⟨rfl, hb, hr⟩
      have HF := Lib.hid (HC.out.call hlt hb hr)
      clear hb hr
      obtain ⟨sv, hsv⟩ : ∃ s, scV (r.drop 1) = s := ⟨_, rfl⟩
      rw [hsv] at HDT ⊢
      obtain ⟨⟨d0, d1, d2, d3, d4⟩, g0, g1, g2, g3, g4⟩ := HF.out.row
      obtain ⟨⟨r0, r1, r2, r3, r4⟩, f0, f1, f2, f3, f4⟩ := HF.out.rrow
      clear hsv
      go_wp2_with fail
      refine bodyPost_ret (v := .agg #[.int .i64 hk, .int .i64 v, .int .i64 hm, .int .i64 hw, .int .i64 sv]) (by simp [results, Tryz.results28, go_sem, r0, r1, r2, r3, r4]) rfl ?_
      have hf := ((((((⟨HF.out.but, HF.out.rd⟩ : RdB w b _ _ V3).set hlt (w.heap.size + 1) 4 (by omega) (.int .i64 sv)).set hlt w.heap.size 0 (Nat.le_refl _) (.int .i64 hk)).set hlt w.heap.size 1 (Nat.le_refl _) (.int .i64 v)).set hlt w.heap.size 2 (Nat.le_refl _) (.int .i64 hm)).set hlt w.heap.size 3 (Nat.le_refl _) (.int .i64 hw)).set hlt w.heap.size 4 (Nat.le_refl _) (.int .i64 sv)
      refine ⟨by rw [HDT.out]; rfl, hf.but, ?_⟩
      rw [HDT.out]
      dsimp only
      rw [show (q || (hbb || bv || scB (r.drop 1))) = (q || hbb || bv || scB (r.drop 1)) by simp only [Bool.or_assoc]]
      exact hf.rd
    · rw [n1, if_neg (by decide)] at HDT
      rw [n2] at HC
      rw [n1]
      obtain ⟨⟨d0, d1, d2, d3, d4⟩, g0, g1, g2, g3, g4⟩ := HC.out.row
      obtain ⟨⟨r0, r1, r2, r3, r4⟩, f0, f1, f2, f3, f4⟩ := HC.out.rrow
      clear n1 n2
      go_wp2_with fail
      refine bodyPost_ret (v := .agg #[.int .i64 hk, .int .i64 v, .int .i64 hm, .int .i64 hw, .int .i64 7200]) (by simp [results, Tryz.results28, go_sem, r0, r1, r2, r3, r4]) rfl ?_
      have hf := (((((⟨HC.out.but, HC.out.rd⟩ : RdB w b _ _ V2).set hlt w.heap.size 0 (Nat.le_refl _) (.int .i64 hk)).set hlt w.heap.size 1 (Nat.le_refl _) (.int .i64 v)).set hlt w.heap.size 2 (Nat.le_refl _) (.int .i64 hm)).set hlt w.heap.size 3 (Nat.le_refl _) (.int .i64 hw)).set hlt w.heap.size 4 (Nat.le_refl _) (.int .i64 7200)
      refine ⟨by rw [HDT.out]; rfl, hf.but, ?_⟩
      rw [HDT.out]
      dsimp only
      rw [show (q || (hbb || bv)) = (q || hbb || bv) by simp only [Bool.or_assoc]]
      exact hf.rd
end Go.Proofs.YtgllbagmmpicaaaGreatDoor.Px
