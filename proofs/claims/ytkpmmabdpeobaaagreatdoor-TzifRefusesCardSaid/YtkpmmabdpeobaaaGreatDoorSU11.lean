/- The function analemmaref37.Parse: a string is read as the document says. -/
import Derived.Test.YtkpmmabdpeobaaaGreatDoorSU10
import Derived.Test.YtkpmmabdpeobaaaGreatDoorSU9
import Derived.Test.YtkpmmabdpeobaaaGreatDoorSU4
import Derived.Outline
namespace Go.Proofs.YtkpmmabdpeobaaaGreatDoor.Px
open Go.RowKit
open Civ
open Off (run)
theorem rdst_cases (F : Fl) (hg : F.g = true) (a : List UInt8) (o : Int) (c l : List UInt8) (b : Bool) :
 ((decide (0 < (bs l).size) = false ∨ (decide (0 < (bs l).size) = true ∧ ∃ h : 0 < (bs l).size, (((bs l)[0].toNat : Int) != 44) = false)) ∧ Hid (dstG F a o c l b = datesG F a o c (o + 3600) l b)) ∨
 ((decide (0 < (bs l).size) = true ∧ ∃ h : 0 < (bs l).size, (((bs l)[0].toNat : Int) != 44) = true) ∧ Hid (dstG F a o c l b = datesG F a o c (-scV l) (scR l) (b || scB l))) := by
 have hz := bs_size l
 unfold dstG skipG
 rw [hg]
 cases l with
 | nil => left; exact ⟨.inl (decide_eq_false (by rw [hz]; decide)), Lib.hid rfl⟩
 | cons x r =>
   have h0 : 0 < (bs (x :: r)).size := by rw [hz]; simp
   have hx : (bs (x :: r))[0] = x := Off.head_at h0
   by_cases h : x = 44
   · left
     refine ⟨.inr ⟨decide_eq_true h0, h0, by rw [hx, h]; rfl⟩, Lib.hid ?_⟩
     rw [show nextB 44 (x :: r) = true by unfold nextB; rw [h]; rfl]; rfl
   · right
     refine ⟨⟨decide_eq_true h0, h0, ?_⟩, Lib.hid ?_⟩
     · rw [hx, bne_iff_ne]
       intro e
       exact h (UInt8.toNat_inj.1 (by have : (44 : UInt8).toNat = 44 := rfl; omega))
     · have e : nextB 44 (x :: r) = false := by
         unfold nextB
         rw [List.head?_cons, Bool.eq_false_iff]
         intro e
         exact h (Option.some.inj (eq_of_beq e))
       rw [e]; rfl
structure Pfi (w : World) (l : List UInt8) (q : Bool) (p : Pos) (wr : World) : Prop where
 below : Below w.heap.size w wr
 res : wr.heap[w.heap.size]? = some (.cells Pos.zero.cells 50 (0, 0))
 rd : RfAt wr (w.heap.size + 1) l q
 pos : wr.heap[w.heap.size + 2]? = some (.cells p.cells 50 (0, 0))
theorem Pfi.call {w : World} {l l' : List UInt8} {q q' : Bool} {p : Pos} {wr W : World} (h : Pfi w l q p wr) (hB : But (w.heap.size + 1) wr W) (hr : RfAt W (w.heap.size + 1) l' q') : Pfi w l' q' p W :=
 ⟨h.below.trans (hB.low (Nat.le_succ _)), hB.heap h.res (by omega), hr, hB.heap h.pos (by omega)⟩
theorem Pfi.keep {w : World} {l : List UInt8} {q : Bool} {p : Pos} {wr W : World} (h : Pfi w l q p wr) (hB : Below wr.heap.size wr W) : Pfi w l q p W :=
 ⟨h.below.trans (hB.mono h.below.size), heap_keep h.res hB, h.rd.keep hB, heap_keep h.pos hB⟩
theorem Pfi.set {w : World} {l : List UInt8} {q : Bool} {p : Pos} {wr : World} (h : Pfi w l q p wr) (i : Nat) (u : Value) (p' : Pos) (he : p.cells.setIfInBounds i u = p'.cells) :
 Pfi w l q p' (wr.setCell ⟨w.heap.size + 2, i, none⟩ u) :=
 ⟨h.below.setCell (by show w.heap.size ≤ w.heap.size + 2; omega) u, (Below.heap_setCell _ _ _ _ (by show w.heap.size ≠ w.heap.size + 2; omega)).trans h.res,
  (Below.heap_setCell _ _ _ _ (by show w.heap.size + 1 ≠ w.heap.size + 2; omega)).trans h.rd, by rw [← he]; exact cells_set h.pos i u⟩
theorem Pfi.setB {w : World} {l : List UInt8} {q : Bool} {p : Pos} {wr : World} (h : Pfi w l q p wr) (r : Bool) : Pfi w l r p (wr.setCell ⟨w.heap.size + 1, 1, none⟩ (.bool r)) :=
 ⟨h.below.setCell (by show w.heap.size ≤ w.heap.size + 1; omega) _, (Below.heap_setCell _ _ _ _ (by show w.heap.size ≠ w.heap.size + 1; omega)).trans h.res, h.rd.setB r,
  (Below.heap_setCell _ _ _ _ (by show w.heap.size + 2 ≠ w.heap.size + 1; omega)).trans h.pos⟩
theorem Pfi.start (w : World) (l : List UInt8) (T1 T2 T3 : Nat) (h1 : T1 = 50) (h2 : T2 = 123) (h3 : T3 = 50) :
 Pfi w l false Pos.zero (((w.alloc (.cells Pos.zero.cells T1)).alloc (.cells #[.string (bs l), .bool false] T2)).alloc (.cells Pos.zero.cells T3)) := by
 subst h1 h2 h3
 have z1 : (w.alloc (.cells Pos.zero.cells 50)).heap.size = w.heap.size + 1 := by simp
 have z2 : ((w.alloc (.cells Pos.zero.cells 50)).alloc (.cells #[.string (bs l), .bool false] 123)).heap.size = w.heap.size + 2 := by simp
 refine ⟨(((Below.refl _ w).alloc (Nat.le_refl _) _).alloc (by rw [z1]; omega) _).alloc (by rw [z2]; omega) _, heap_old (heap_old (heap_new w _) _) _, ?_, ?_⟩
 · have := heap_new (w.alloc (.cells Pos.zero.cells 50)) (.cells #[.string (bs l), .bool false] 123)
   rw [z1] at this
   exact heap_old this _
 · have := heap_new ((w.alloc (.cells Pos.zero.cells 50)).alloc (.cells #[.string (bs l), .bool false] 123)) (.cells Pos.zero.cells 50)
   rwa [z2] at this
theorem Pfi.rrow {w : World} {l : List UInt8} {q : Bool} {p : Pos} {wr : World} (h : Pfi w l q p wr) :
 (wr.cell? ⟨w.heap.size, 0, none⟩ = some (.string ⟨#[]⟩) ∧ wr.cell? ⟨w.heap.size, 1, none⟩ = some (.int .i64 0) ∧ wr.cell? ⟨w.heap.size, 2, none⟩ = some (.string ⟨#[]⟩) ∧ wr.cell? ⟨w.heap.size, 3, none⟩ = some (.int .i64 0) ∧ wr.cell? ⟨w.heap.size, 4, none⟩ = some (.int .i64 0) ∧ wr.cell? ⟨w.heap.size, 5, none⟩ = some (.int .i64 0) ∧ wr.cell? ⟨w.heap.size, 6, none⟩ = some (.int .i64 0) ∧ wr.cell? ⟨w.heap.size, 7, none⟩ = some (.int .i64 0) ∧ wr.cell? ⟨w.heap.size, 8, none⟩ = some (.int .i64 0) ∧ wr.cell? ⟨w.heap.size, 9, none⟩ = some (.int .i64 0) ∧ wr.cell? ⟨w.heap.size, 10, none⟩ = some (.int .i64 0) ∧ wr.cell? ⟨w.heap.size, 11, none⟩ = some (.int .i64 0) ∧ wr.cell? ⟨w.heap.size, 12, none⟩ = some (.int .i64 0) ∧ wr.cell? ⟨w.heap.size, 13, none⟩ = some (.int .i64 0)) ∧
 (wr.frozen? ⟨w.heap.size, 0, none⟩ = false ∧ wr.frozen? ⟨w.heap.size, 1, none⟩ = false ∧ wr.frozen? ⟨w.heap.size, 2, none⟩ = false ∧ wr.frozen? ⟨w.heap.size, 3, none⟩ = false ∧ wr.frozen? ⟨w.heap.size, 4, none⟩ = false ∧ wr.frozen? ⟨w.heap.size, 5, none⟩ = false ∧ wr.frozen? ⟨w.heap.size, 6, none⟩ = false ∧ wr.frozen? ⟨w.heap.size, 7, none⟩ = false ∧ wr.frozen? ⟨w.heap.size, 8, none⟩ = false ∧ wr.frozen? ⟨w.heap.size, 9, none⟩ = false ∧ wr.frozen? ⟨w.heap.size, 10, none⟩ = false ∧ wr.frozen? ⟨w.heap.size, 11, none⟩ = false ∧ wr.frozen? ⟨w.heap.size, 12, none⟩ = false ∧ wr.frozen? ⟨w.heap.size, 13, none⟩ = false) :=
 ⟨⟨cells_at h.res 0, cells_at h.res 1, cells_at h.res 2, cells_at h.res 3, cells_at h.res 4, cells_at h.res 5, cells_at h.res 6, cells_at h.res 7, cells_at h.res 8, cells_at h.res 9, cells_at h.res 10, cells_at h.res 11, cells_at h.res 12, cells_at h.res 13⟩, ⟨free_at h.res 0, free_at h.res 1, free_at h.res 2, free_at h.res 3, free_at h.res 4, free_at h.res 5, free_at h.res 6, free_at h.res 7, free_at h.res 8, free_at h.res 9, free_at h.res 10, free_at h.res 11, free_at h.res 12, free_at h.res 13⟩⟩
theorem Pfi.prow {w : World} {l : List UInt8} {q : Bool} {a c : ByteArray} {b d k1 d1 m1 w1 s1 k2 d2 m2 w2 s2 : Int} {wr : World} (h : Pfi w l q ⟨a, b, c, d, ⟨k1, d1, m1, w1, s1⟩, ⟨k2, d2, m2, w2, s2⟩⟩ wr) :
 wr.cell? ⟨w.heap.size + 1 + 1, 0, none⟩ = some (.string a) ∧ wr.cell? ⟨w.heap.size + 1 + 1, 1, none⟩ = some (.int .i64 b) ∧ wr.cell? ⟨w.heap.size + 1 + 1, 2, none⟩ = some (.string c) ∧ wr.cell? ⟨w.heap.size + 1 + 1, 3, none⟩ = some (.int .i64 d) ∧ wr.cell? ⟨w.heap.size + 1 + 1, 4, none⟩ = some (.int .i64 k1) ∧ wr.cell? ⟨w.heap.size + 1 + 1, 5, none⟩ = some (.int .i64 d1) ∧ wr.cell? ⟨w.heap.size + 1 + 1, 6, none⟩ = some (.int .i64 m1) ∧ wr.cell? ⟨w.heap.size + 1 + 1, 7, none⟩ = some (.int .i64 w1) ∧ wr.cell? ⟨w.heap.size + 1 + 1, 8, none⟩ = some (.int .i64 s1) ∧ wr.cell? ⟨w.heap.size + 1 + 1, 9, none⟩ = some (.int .i64 k2) ∧ wr.cell? ⟨w.heap.size + 1 + 1, 10, none⟩ = some (.int .i64 d2) ∧ wr.cell? ⟨w.heap.size + 1 + 1, 11, none⟩ = some (.int .i64 m2) ∧ wr.cell? ⟨w.heap.size + 1 + 1, 12, none⟩ = some (.int .i64 w2) ∧ wr.cell? ⟨w.heap.size + 1 + 1, 13, none⟩ = some (.int .i64 s2) :=
 ⟨cells_at h.pos 0, cells_at h.pos 1, cells_at h.pos 2, cells_at h.pos 3, cells_at h.pos 4, cells_at h.pos 5, cells_at h.pos 6, cells_at h.pos 7, cells_at h.pos 8, cells_at h.pos 9, cells_at h.pos 10, cells_at h.pos 11, cells_at h.pos 12, cells_at h.pos 13⟩
set_option maxHeartbeats 4000000 in
set_option maxRecDepth 100000 in
theorem ref_parse_short (l : List UInt8) (w : World) (hl : l.length ≤ 100) :
 Calls Tryz.prog 35 #[.string (bs l)] w fun e w' => e = .returned (.tuple #[(parseG rfF l).fin.1.val, .int .i64 (parseG rfF l).fin.2]) ∧ Below w.heap.size w w' := by
 have hz := bs_size l
 have i1 : ((bs l).size : Int) ≤ 100 := by omega
 have hnr : (nmR l).length ≤ 1000000 := Nat.le_trans (nmR_le l) (by omega)
 have hb0 := scV_bd (nmR l)
 have CN := Lib.hid (fun q w2 h => rf_name (w.heap.size + 1) l (by omega) q w2 h)
 have CX := Lib.hid (fun q w2 h => rf_seconds (w.heap.size + 1) (nmR l) hnr q w2 h)
 unfold RfPost at CN CX
 obtain ⟨x0, hx0⟩ : ∃ x, scV (nmR l) = x := ⟨_, rfl⟩
 obtain ⟨l2, hl2⟩ : ∃ x, scR (nmR l) = x := ⟨_, rfl⟩
 obtain ⟨b2, hb2⟩ : ∃ x, scB (nmR l) = x := ⟨_, rfl⟩
 obtain ⟨n1, hn1⟩ : ∃ x, nmS l = x := ⟨_, rfl⟩
 obtain ⟨b1, hb1⟩ : ∃ x, nmB l = x := ⟨_, rfl⟩
 rw [hx0] at hb0
 rw [hx0, hl2, hb2] at CX
 obtain ⟨k1, hk1⟩ : ∃ x, nameOk n1 = x := ⟨_, rfl⟩
 rw [hn1, hb1, hk1] at CN
 have HS := Lib.hid (Pfi.start w l 50 123 50 rfl rfl rfl)
 have hG : parseG rfF l = if l2.isEmpty then ⟨⟨bs n1, -x0, bs [], 0, Dt.zero, Dt.zero⟩, [], b1 || !k1 || b2⟩ else dstG rfF n1 (-x0) (nmS l2) (nmR l2) (b1 || !k1 || b2 || nmB l2 || !nameOk (nmS l2)) := by
  unfold parseG; rw [hl2, hx0, hn1, hb1, hb2]; show _ = if _ then (⟨_, _, b1 || !k1 || b2⟩ : Pr) else _; rw [← hk1]; rfl
 have hl2z : l2.length ≤ 1000000 := by rw [← hl2]; exact Nat.le_trans (scR_le _) hnr
 obtain ⟨hsz1, hsz2⟩ := parse_size rfF l
 obtain ⟨R, hR⟩ : ∃ R, parseG rfF l = R := ⟨_, rfl⟩
 rw [hR] at hG hsz1 hsz2
 rw [hR]
 have HG := Lib.hid hG
 obtain ⟨Rp, Rl, Rb⟩ := R
 have HFIN := Lib.hid (show (Pr.mk Rp Rl Rb).fin = if (Rb || !Rl.isEmpty || !Rp.ok) then (Pos.zero, 5) else (Rp, 0) from rfl)
 obtain ⟨FF, hFF⟩ : ∃ F, (Pr.mk Rp Rl Rb).fin = F := ⟨_, rfl⟩
 rw [hFF] at HFIN ⊢
 dsimp only at hsz1 hsz2
 have HSZ1 := Lib.hid hsz1
 have HSZ2 := Lib.hid hsz2
 clear hx0 hl2 hb2 hn1 hb1 hk1 hG hR hsz1 hsz2 hFF
 obtain ⟨x00, x01⟩ := hb0
 go_enter Tryz.func35, Tryz.ntmps35
 go_wp2_with fail
 refine (CN.out false _ HS.out.rd).mono ?_
 rintro _ V ⟨rfl, hb, hr⟩
 have HA := Lib.hid (HS.out.call hb hr)
 have d0 : V.cell? ⟨w.heap.size + 1 + 1, 0, none⟩ = some (.string (bs [])) := cells_at HA.out.pos 0
 have g0 : V.frozen? ⟨w.heap.size + 1 + 1, 0, none⟩ = false := free_at HA.out.pos 0
 have HA2 := Lib.hid (HA.out.set 0 (.string (bs n1)) ⟨bs n1, 0, bs [], 0, Dt.zero, Dt.zero⟩ rfl)
 clear hb hr
 go_wp2_with fail
 refine (CX.out _ _ HA2.out.rd ).mono ?_
 rintro _ V2 ⟨rfl, hb, hr⟩
 have HB := Lib.hid (HA2.out.call hb hr)
 have e0 : V2.cell? ⟨w.heap.size + 1 + 1, 1, none⟩ = some (.int .i64 0) := cells_at HB.out.pos 1
 have e1 : V2.frozen? ⟨w.heap.size + 1 + 1, 1, none⟩ = false := free_at HB.out.pos 1
 have HB2 := Lib.hid (HB.out.set 1 (.int .i64 (-x0)) ⟨bs n1, -x0, bs [], 0, Dt.zero, Dt.zero⟩ rfl)
 have e2 : V2.cell? ⟨w.heap.size + 1, 0, none⟩ = some (.string (bs l2)) := HB.out.rd.row.1.1
 clear hb hr d0 g0
 go_upto_if 25 with fail
 go_cut [25] (fun _ wx => Pfi w Rl Rb Rp wx)
 case first =>
  by_cases hl0 : l2 = []
  · have hg := HG.out
    rw [if_pos (by rw [hl0]; rfl)] at hg
    injection hg with g1 g2 g3
    subst g1 g2 g3 hl0
    have e3 : (bs []).toList.isEmpty = true := (Off.bs_emp rfl).1
    have e4 : (bs []).toList = [] := (Off.bs_emp rfl).2
    have e5 : decide (0 < (bs []).size) = false := decide_eq_false (by rw [bs_size]; decide)
    rw [e5]
    clear e5
    go_wp2_with fail
    go_meet
    rw [show (b1 || !k1 || b2) = (false || b1 || !k1 || b2) by simp]
    exact HB2.out
  · have hg := HG.out
    rw [if_neg (by simpa using hl0)] at hg
    have HG2 := Lib.hid hg
    have e3 : (bs l2).toList.isEmpty = false := Off.bs_full hl0
    have e5 : decide (0 < (bs l2).size) = true := decide_eq_true (by have := List.length_pos_iff.2 hl0; rw [bs_size]; omega)
    have CN2 := Lib.hid (fun q w2 h => rf_name (w.heap.size + 1) l2 hl2z q w2 h)
    have hn2 := nmR_le l2
    unfold RfPost at CN2
    obtain ⟨n2, hn⟩ : ∃ x, nmS l2 = x := ⟨_, rfl⟩
    obtain ⟨l3, hl3⟩ : ∃ x, nmR l2 = x := ⟨_, rfl⟩
    obtain ⟨b3, hb3⟩ : ∃ x, nmB l2 = x := ⟨_, rfl⟩
    obtain ⟨k2, hk2⟩ : ∃ x, nameOk n2 = x := ⟨_, rfl⟩
    rw [hn, hl3, hb3, hk2] at CN2 HG2
    rw [hl3] at hn2
    have hl3z : l3.length ≤ 1000000 := by omega
    rw [e5]
    clear hg hn hl3 hb3 hk2 hl0 e5
    go_wp2_with fail
    refine (CN2.out _ _ HB2.out.rd).mono ?_
    rintro _ V3 ⟨rfl, hb, hr⟩
    have HC := Lib.hid (HB2.out.call hb hr)
    have HC2 := Lib.hid (HC.out.set 2 (.string (bs n2)) ⟨bs n1, -x0, bs n2, 0, Dt.zero, Dt.zero⟩ rfl)
    have c2 : V3.cell? ⟨w.heap.size + 1 + 1, 2, none⟩ = some (.string (bs [])) := cells_at HC.out.pos 2
    have c2f : V3.frozen? ⟨w.heap.size + 1 + 1, 2, none⟩ = false := free_at HC.out.pos 2
    obtain ⟨⟨m0, m1⟩, mf0, mf1⟩ := HC.out.rd.row
    clear hb hr e0 e1 e2 e3
    have c1 : V3.cell? ⟨w.heap.size + 1 + 1, 1, none⟩ = some (.int .i64 (-x0)) := cells_at HC.out.pos 1
    have c3 : V3.cell? ⟨w.heap.size + 1 + 1, 3, none⟩ = some (.int .i64 0) := cells_at HC.out.pos 3
    have c3f : V3.frozen? ⟨w.heap.size + 1 + 1, 3, none⟩ = false := free_at HC.out.pos 3
    have hg2 := HG2.out
    rw [show (b1 || !k1 || b2 || b3 || !k2) = (false || b1 || !k1 || b2 || b3 || !k2) by simp] at hg2
    obtain ⟨q4, hq4⟩ : ∃ q, (false || b1 || !k1 || b2 || b3 || !k2) = q := ⟨_, rfl⟩
    rw [hq4] at HC2 hg2 m1
    have HD2 := Lib.hid (HC2.out.set 3 (.int .i64 (-x0 + 3600)) ⟨bs n1, -x0, bs n2, -x0 + 3600, Dt.zero, Dt.zero⟩ rfl)
    have HG3 := Lib.hid hg2
    clear hg2 HG2
    have CX3 := Lib.hid (fun q w2 h => rf_seconds (w.heap.size + 1) l3 hl3z q w2 h)
    unfold RfPost at CX3
    have hb3 := scV_bd l3
    have hcs := rdst_cases rfF rfl n1 (-x0) n2 l3 q4
    have hsr := scR_le l3
    obtain ⟨x3, hx3⟩ : ∃ x, scV l3 = x := ⟨_, rfl⟩
    obtain ⟨l4, hl4⟩ : ∃ x, scR l3 = x := ⟨_, rfl⟩
    obtain ⟨b4, hb4⟩ : ∃ x, scB l3 = x := ⟨_, rfl⟩
    rw [hx3, hl4, hb4] at CX3 hcs
    rw [hx3] at hb3
    rw [hl4] at hsr
    obtain ⟨x30, x31⟩ := hb3
    have hl4z : l4.length ≤ 1000000 := by omega
    clear hq4 hx3 hl4 hb4 hsr
    rcases hcs with ⟨hs, hd⟩ | ⟨⟨h30, h31a, h31⟩, hd⟩
    · rcases hs with hs | ⟨hs, h30, hs2⟩
      all_goals
       have HG4 := Lib.hid (HG3.out.trans hd.out)
       clear hd HG3 CX3
       have CW := Lib.hid (fun q w2 h => rf_want 44 (w.heap.size + 1) l3 (by omega) q w2 h)
       have hz5 : (nextR 44 l3).length ≤ 1000000 := Nat.le_trans (nextR_le 44 l3) (by omega)
       have CD := Lib.hid (fun q w2 h => rf_date (w.heap.size + 1) (nextR 44 l3) hz5 q w2 h)
       unfold datesG at HG4
       have hz6 := dateG_le rfF (nextR 44 l3)
       obtain ⟨l5, hl5⟩ : ∃ x, nextR 44 l3 = x := ⟨_, rfl⟩
       obtain ⟨w5, hw5⟩ : ∃ x, nextB 44 l3 = x := ⟨_, rfl⟩
       rw [hl5] at CW CD HG4 hz5 hz6
       rw [hw5] at CW HG4
       obtain ⟨D1, hD1⟩ : ∃ x, dateG rfF l5 = x := ⟨_, rfl⟩
       rw [hD1] at CD HG4 hz6
       obtain ⟨⟨k1, d1, m1, y1, s1⟩, l6, bb1⟩ := D1
       dsimp only at HG4 hz6
       have CW2 := Lib.hid (fun q w2 h => rf_want 44 (w.heap.size + 1) l6 (by omega) q w2 h)
       have hz7 : (nextR 44 l6).length ≤ 1000000 := Nat.le_trans (nextR_le 44 l6) (by omega)
       have CD2 := Lib.hid (fun q w2 h => rf_date (w.heap.size + 1) (nextR 44 l6) hz7 q w2 h)
       obtain ⟨l7, hl7⟩ : ∃ x, nextR 44 l6 = x := ⟨_, rfl⟩
       obtain ⟨w7, hw7⟩ : ∃ x, nextB 44 l6 = x := ⟨_, rfl⟩
       rw [hl7] at CW2 CD2 HG4
       rw [hw7] at CW2 HG4
       obtain ⟨D2, hD2⟩ : ∃ x, dateG rfF l7 = x := ⟨_, rfl⟩
       rw [hD2] at CD2 HG4
       obtain ⟨⟨k2, d2, m2, y2, s2⟩, l8, bb2⟩ := D2
       unfold DfPost Dt.val at CD CD2
       unfold RfPost at CW CW2
       dsimp only at HG4 CD CD2
       have hg4 := HG4.out
       injection hg4 with p1 p2 p3
       have P1 := Lib.hid p1
       have P2 := Lib.hid p2
       have P3 := Lib.hid p3
       clear hl5 hw5 hD1 hl7 hw7 hD2 hz5 hz6 hz7 p1 p2 p3 HG4
       go_wp2_with fail
       refine (CW.out _ _ HD2.out.rd).mono ?_
       rintro _ V5 ⟨_, rfl, hb, hr⟩
       have HH := Lib.hid (HD2.out.call hb hr)
       clear hb hr c1 c3 c3f m0 c2 c2f mf0 mf1
       go_wp2_with fail
       refine (CD.out _ _ HH.out.rd ).mono ?_
       rintro _ V6 ⟨rfl, hb, hr⟩
       have HJ := Lib.hid (HH.out.call hb hr)
       have j4 : V6.cell? ⟨w.heap.size + 1 + 1, 4, none⟩ = some (.int .i64 0) := cells_at HJ.out.pos 4
       have j5 : V6.cell? ⟨w.heap.size + 1 + 1, 5, none⟩ = some (.int .i64 0) := cells_at HJ.out.pos 5
       have j6 : V6.cell? ⟨w.heap.size + 1 + 1, 6, none⟩ = some (.int .i64 0) := cells_at HJ.out.pos 6
       have j7 : V6.cell? ⟨w.heap.size + 1 + 1, 7, none⟩ = some (.int .i64 0) := cells_at HJ.out.pos 7
       have j8 : V6.cell? ⟨w.heap.size + 1 + 1, 8, none⟩ = some (.int .i64 0) := cells_at HJ.out.pos 8
       have f4 : V6.frozen? ⟨w.heap.size + 1 + 1, 4, none⟩ = false := free_at HJ.out.pos 4
       have f5 : V6.frozen? ⟨w.heap.size + 1 + 1, 5, none⟩ = false := free_at HJ.out.pos 5
       have f6 : V6.frozen? ⟨w.heap.size + 1 + 1, 6, none⟩ = false := free_at HJ.out.pos 6
       have f7 : V6.frozen? ⟨w.heap.size + 1 + 1, 7, none⟩ = false := free_at HJ.out.pos 7
       have f8 : V6.frozen? ⟨w.heap.size + 1 + 1, 8, none⟩ = false := free_at HJ.out.pos 8
       have HJ2 := Lib.hid (((((HJ.out.set 4 (.int .i64 k1) ⟨bs n1, -x0, bs n2, (-x0 + 3600), ⟨k1, 0, 0, 0, 0⟩, Dt.zero⟩ rfl).set 5 (.int .i64 d1) ⟨bs n1, -x0, bs n2, (-x0 + 3600), ⟨k1, d1, 0, 0, 0⟩, Dt.zero⟩ rfl).set 6 (.int .i64 m1) ⟨bs n1, -x0, bs n2, (-x0 + 3600), ⟨k1, d1, m1, 0, 0⟩, Dt.zero⟩ rfl).set 7 (.int .i64 y1) ⟨bs n1, -x0, bs n2, (-x0 + 3600), ⟨k1, d1, m1, y1, 0⟩, Dt.zero⟩ rfl).set 8 (.int .i64 s1) ⟨bs n1, -x0, bs n2, (-x0 + 3600), ⟨k1, d1, m1, y1, s1⟩, Dt.zero⟩ rfl)
       clear hb hr
       go_wp2_with fail
       refine (CW2.out _ _ HJ2.out.rd).mono ?_
       rintro _ V7 ⟨_, rfl, hb, hr⟩
       have HK := Lib.hid (HJ2.out.call hb hr)
       clear hb hr j4 j5 j6 j7 j8 f4 f5 f6 f7 f8
       go_wp2_with fail
       refine (CD2.out _ _ HK.out.rd ).mono ?_
       rintro _ V8 ⟨rfl, hb, hr⟩
       have HL := Lib.hid (HK.out.call hb hr)
       have j4 : V8.cell? ⟨w.heap.size + 1 + 1, 9, none⟩ = some (.int .i64 0) := cells_at HL.out.pos 9
       have j5 : V8.cell? ⟨w.heap.size + 1 + 1, 10, none⟩ = some (.int .i64 0) := cells_at HL.out.pos 10
       have j6 : V8.cell? ⟨w.heap.size + 1 + 1, 11, none⟩ = some (.int .i64 0) := cells_at HL.out.pos 11
       have j7 : V8.cell? ⟨w.heap.size + 1 + 1, 12, none⟩ = some (.int .i64 0) := cells_at HL.out.pos 12
       have j8 : V8.cell? ⟨w.heap.size + 1 + 1, 13, none⟩ = some (.int .i64 0) := cells_at HL.out.pos 13
       have f4 : V8.frozen? ⟨w.heap.size + 1 + 1, 9, none⟩ = false := free_at HL.out.pos 9
       have f5 : V8.frozen? ⟨w.heap.size + 1 + 1, 10, none⟩ = false := free_at HL.out.pos 10
       have f6 : V8.frozen? ⟨w.heap.size + 1 + 1, 11, none⟩ = false := free_at HL.out.pos 11
       have f7 : V8.frozen? ⟨w.heap.size + 1 + 1, 12, none⟩ = false := free_at HL.out.pos 12
       have f8 : V8.frozen? ⟨w.heap.size + 1 + 1, 13, none⟩ = false := free_at HL.out.pos 13
       have HL2 := Lib.hid (((((HL.out.set 9 (.int .i64 k2) ⟨bs n1, -x0, bs n2, (-x0 + 3600), ⟨k1, d1, m1, y1, s1⟩, ⟨k2, 0, 0, 0, 0⟩⟩ rfl).set 10 (.int .i64 d2) ⟨bs n1, -x0, bs n2, (-x0 + 3600), ⟨k1, d1, m1, y1, s1⟩, ⟨k2, d2, 0, 0, 0⟩⟩ rfl).set 11 (.int .i64 m2) ⟨bs n1, -x0, bs n2, (-x0 + 3600), ⟨k1, d1, m1, y1, s1⟩, ⟨k2, d2, m2, 0, 0⟩⟩ rfl).set 12 (.int .i64 y2) ⟨bs n1, -x0, bs n2, (-x0 + 3600), ⟨k1, d1, m1, y1, s1⟩, ⟨k2, d2, m2, y2, 0⟩⟩ rfl).set 13 (.int .i64 s2) ⟨bs n1, -x0, bs n2, (-x0 + 3600), ⟨k1, d1, m1, y1, s1⟩, ⟨k2, d2, m2, y2, s2⟩⟩ rfl)
       clear hb hr
       go_wp2_with fail
       go_meet
       rw [P1.out, P2.out, P3.out]
       exact HL2.out
    ·
     have HG4 := Lib.hid (HG3.out.trans hd.out)
     clear hd HG3
     have CW := Lib.hid (fun q w2 h => rf_want 44 (w.heap.size + 1) l4 (by omega) q w2 h)
     have hz5 : (nextR 44 l4).length ≤ 1000000 := Nat.le_trans (nextR_le 44 l4) (by omega)
     have CD := Lib.hid (fun q w2 h => rf_date (w.heap.size + 1) (nextR 44 l4) hz5 q w2 h)
     unfold datesG at HG4
     have hz6 := dateG_le rfF (nextR 44 l4)
     obtain ⟨l5, hl5⟩ : ∃ x, nextR 44 l4 = x := ⟨_, rfl⟩
     obtain ⟨w5, hw5⟩ : ∃ x, nextB 44 l4 = x := ⟨_, rfl⟩
     rw [hl5] at CW CD HG4 hz5 hz6
     rw [hw5] at CW HG4
     obtain ⟨D1, hD1⟩ : ∃ x, dateG rfF l5 = x := ⟨_, rfl⟩
     rw [hD1] at CD HG4 hz6
     obtain ⟨⟨k1, d1, m1, y1, s1⟩, l6, bb1⟩ := D1
     dsimp only at HG4 hz6
     have CW2 := Lib.hid (fun q w2 h => rf_want 44 (w.heap.size + 1) l6 (by omega) q w2 h)
     have hz7 : (nextR 44 l6).length ≤ 1000000 := Nat.le_trans (nextR_le 44 l6) (by omega)
     have CD2 := Lib.hid (fun q w2 h => rf_date (w.heap.size + 1) (nextR 44 l6) hz7 q w2 h)
     obtain ⟨l7, hl7⟩ : ∃ x, nextR 44 l6 = x := ⟨_, rfl⟩
     obtain ⟨w7, hw7⟩ : ∃ x, nextB 44 l6 = x := ⟨_, rfl⟩
     rw [hl7] at CW2 CD2 HG4
     rw [hw7] at CW2 HG4
     obtain ⟨D2, hD2⟩ : ∃ x, dateG rfF l7 = x := ⟨_, rfl⟩
     rw [hD2] at CD2 HG4
     obtain ⟨⟨k2, d2, m2, y2, s2⟩, l8, bb2⟩ := D2
     unfold DfPost Dt.val at CD CD2
     unfold RfPost at CW CW2
     dsimp only at HG4 CD CD2
     have hg4 := HG4.out
     injection hg4 with p1 p2 p3
     have P1 := Lib.hid p1
     have P2 := Lib.hid p2
     have P3 := Lib.hid p3
     clear hl5 hw5 hD1 hl7 hw7 hD2 hz5 hz6 hz7 p1 p2 p3 HG4
     go_wp2_with fail
     refine (CX3.out _ _ HD2.out.rd ).mono ?_
     rintro _ V4 ⟨rfl, hb, hr⟩
     have HF := Lib.hid (HD2.out.call hb hr)
     have e3 : V4.cell? ⟨w.heap.size + 1 + 1, 3, none⟩ = some (.int .i64 (-x0 + 3600)) := cells_at HF.out.pos 3
     have e3f : V4.frozen? ⟨w.heap.size + 1 + 1, 3, none⟩ = false := free_at HF.out.pos 3
     have HF2 := Lib.hid (HF.out.set 3 (.int .i64 (-x3)) ⟨bs n1, -x0, bs n2, -x3, Dt.zero, Dt.zero⟩ rfl)
     clear hb hr c1 c3 c3f m0 c2 c2f mf0 mf1
     go_wp2_with fail
     refine (CW.out _ _ HF2.out.rd).mono ?_
     rintro _ V5 ⟨_, rfl, hb, hr⟩
     have HH := Lib.hid (HF2.out.call hb hr)
     clear hb hr e3 e3f
     go_wp2_with fail
     refine (CD.out _ _ HH.out.rd ).mono ?_
     rintro _ V6 ⟨rfl, hb, hr⟩
     have HJ := Lib.hid (HH.out.call hb hr)
     have j4 : V6.cell? ⟨w.heap.size + 1 + 1, 4, none⟩ = some (.int .i64 0) := cells_at HJ.out.pos 4
     have j5 : V6.cell? ⟨w.heap.size + 1 + 1, 5, none⟩ = some (.int .i64 0) := cells_at HJ.out.pos 5
     have j6 : V6.cell? ⟨w.heap.size + 1 + 1, 6, none⟩ = some (.int .i64 0) := cells_at HJ.out.pos 6
     have j7 : V6.cell? ⟨w.heap.size + 1 + 1, 7, none⟩ = some (.int .i64 0) := cells_at HJ.out.pos 7
     have j8 : V6.cell? ⟨w.heap.size + 1 + 1, 8, none⟩ = some (.int .i64 0) := cells_at HJ.out.pos 8
     have f4 : V6.frozen? ⟨w.heap.size + 1 + 1, 4, none⟩ = false := free_at HJ.out.pos 4
     have f5 : V6.frozen? ⟨w.heap.size + 1 + 1, 5, none⟩ = false := free_at HJ.out.pos 5
     have f6 : V6.frozen? ⟨w.heap.size + 1 + 1, 6, none⟩ = false := free_at HJ.out.pos 6
     have f7 : V6.frozen? ⟨w.heap.size + 1 + 1, 7, none⟩ = false := free_at HJ.out.pos 7
     have f8 : V6.frozen? ⟨w.heap.size + 1 + 1, 8, none⟩ = false := free_at HJ.out.pos 8
     have HJ2 := Lib.hid (((((HJ.out.set 4 (.int .i64 k1) ⟨bs n1, -x0, bs n2, (-x3), ⟨k1, 0, 0, 0, 0⟩, Dt.zero⟩ rfl).set 5 (.int .i64 d1) ⟨bs n1, -x0, bs n2, (-x3), ⟨k1, d1, 0, 0, 0⟩, Dt.zero⟩ rfl).set 6 (.int .i64 m1) ⟨bs n1, -x0, bs n2, (-x3), ⟨k1, d1, m1, 0, 0⟩, Dt.zero⟩ rfl).set 7 (.int .i64 y1) ⟨bs n1, -x0, bs n2, (-x3), ⟨k1, d1, m1, y1, 0⟩, Dt.zero⟩ rfl).set 8 (.int .i64 s1) ⟨bs n1, -x0, bs n2, (-x3), ⟨k1, d1, m1, y1, s1⟩, Dt.zero⟩ rfl)
     clear hb hr
     go_wp2_with fail
     refine (CW2.out _ _ HJ2.out.rd).mono ?_
     rintro _ V7 ⟨_, rfl, hb, hr⟩
     have HK := Lib.hid (HJ2.out.call hb hr)
     clear hb hr j4 j5 j6 j7 j8 f4 f5 f6 f7 f8
     go_wp2_with fail
     refine (CD2.out _ _ HK.out.rd ).mono ?_
     rintro _ V8 ⟨rfl, hb, hr⟩
     have HL := Lib.hid (HK.out.call hb hr)
     have j4 : V8.cell? ⟨w.heap.size + 1 + 1, 9, none⟩ = some (.int .i64 0) := cells_at HL.out.pos 9
     have j5 : V8.cell? ⟨w.heap.size + 1 + 1, 10, none⟩ = some (.int .i64 0) := cells_at HL.out.pos 10
     have j6 : V8.cell? ⟨w.heap.size + 1 + 1, 11, none⟩ = some (.int .i64 0) := cells_at HL.out.pos 11
     have j7 : V8.cell? ⟨w.heap.size + 1 + 1, 12, none⟩ = some (.int .i64 0) := cells_at HL.out.pos 12
     have j8 : V8.cell? ⟨w.heap.size + 1 + 1, 13, none⟩ = some (.int .i64 0) := cells_at HL.out.pos 13
     have f4 : V8.frozen? ⟨w.heap.size + 1 + 1, 9, none⟩ = false := free_at HL.out.pos 9
     have f5 : V8.frozen? ⟨w.heap.size + 1 + 1, 10, none⟩ = false := free_at HL.out.pos 10
     have f6 : V8.frozen? ⟨w.heap.size + 1 + 1, 11, none⟩ = false := free_at HL.out.pos 11
     have f7 : V8.frozen? ⟨w.heap.size + 1 + 1, 12, none⟩ = false := free_at HL.out.pos 12
     have f8 : V8.frozen? ⟨w.heap.size + 1 + 1, 13, none⟩ = false := free_at HL.out.pos 13
     have HL2 := Lib.hid (((((HL.out.set 9 (.int .i64 k2) ⟨bs n1, -x0, bs n2, (-x3), ⟨k1, d1, m1, y1, s1⟩, ⟨k2, 0, 0, 0, 0⟩⟩ rfl).set 10 (.int .i64 d2) ⟨bs n1, -x0, bs n2, (-x3), ⟨k1, d1, m1, y1, s1⟩, ⟨k2, d2, 0, 0, 0⟩⟩ rfl).set 11 (.int .i64 m2) ⟨bs n1, -x0, bs n2, (-x3), ⟨k1, d1, m1, y1, s1⟩, ⟨k2, d2, m2, 0, 0⟩⟩ rfl).set 12 (.int .i64 y2) ⟨bs n1, -x0, bs n2, (-x3), ⟨k1, d1, m1, y1, s1⟩, ⟨k2, d2, m2, y2, 0⟩⟩ rfl).set 13 (.int .i64 s2) ⟨bs n1, -x0, bs n2, (-x3), ⟨k1, d1, m1, y1, s1⟩, ⟨k2, d2, m2, y2, s2⟩⟩ rfl)
     clear hb hr
     go_wp2_with fail
     go_meet
     rw [P1.out, P2.out, P3.out]
     exact HL2.out
 case rest =>
  have HA0 := Lib.hid hcut
  have hbw := hcut.below
  have HBW := Lib.hid hbw
  obtain ⟨⟨m0, m1⟩, mf0, mf1⟩ := hcut.rd.row
  have hsz1 := HSZ1.out
  have hsz2 := HSZ2.out
  clear hbw e0 e1 e2
  cases Rb
  · by_cases hl0 : Rl = []
    · have n3 : decide (0 < (bs Rl).size) = false := decide_eq_false (by rw [bs_size, hl0]; decide)
      have CC := Lib.hid (ref_check Rp (by omega) (by omega))
      have hok : (false || !Rl.isEmpty || !Rp.ok) = !Rp.ok := by rw [hl0]; rfl
      rw [hok] at HFIN
      clear hok
      obtain ⟨ok, hokk⟩ : ∃ o, Rp.ok = o := ⟨_, rfl⟩
      rw [hokk] at CC HFIN
      obtain ⟨a, b, c, d, ⟨k1, d1, m1, w1, s1⟩, ⟨k2, d2, m2, w2, s2⟩⟩ := Rp
      unfold Pos.val at CC
      dsimp only at CC
      obtain ⟨p0, p1, p2, p3, p4, p5, p6, p7, p8, p9, p10, p11, p12, p13⟩ := hcut.prow
      clear hcut hl0 hokk hsz1 hsz2
      go_wp2_with fail
      refine (CC.out _).mono ?_
      rintro _ V9 ⟨rfl, hb⟩
      have HB9 := Lib.hid (HA0.out.keep hb)
      clear hb p0 p1 p2 p3 p4 p5 p6 p7 p8 p9 p10 p11 p12 p13
      obtain ⟨p0, p1, p2, p3, p4, p5, p6, p7, p8, p9, p10, p11, p12, p13⟩ := HB9.out.prow
      obtain ⟨⟨r0, r1, r2, r3, r4, r5, r6, r7, r8, r9, r10, r11, r12, r13⟩, ⟨f0, f1, f2, f3, f4, f5, f6, f7, f8, f9, f10, f11, f12, f13⟩⟩ := HB9.out.rrow
      cases ok
      · rw [show codeE false = 2 from rfl]
        have hff : FF = (Pos.zero, 5) := HFIN.out
        have HFF := Lib.hid hff
        clear hff
        go_wp2_with fail
        refine bodyPost_ret (v := .tuple #[.agg #[.string ⟨#[]⟩, .int .i64 0, .string ⟨#[]⟩, .int .i64 0, .int .i64 0, .int .i64 0, .int .i64 0, .int .i64 0, .int .i64 0, .int .i64 0, .int .i64 0, .int .i64 0, .int .i64 0, .int .i64 0], .int .i64 5]) (by simp [results, Tryz.results35, go_sem, r0, r1, r2, r3, r4, r5, r6, r7, r8, r9, r10, r11, r12, r13]) rfl ?_
        refine ⟨by rw [HFF.out]; rfl, ?_⟩
        exact (((((((((((((HB9.out.below.setCell (by simp) _).setCell (by simp) _).setCell (by simp) _).setCell (by simp) _).setCell (by simp) _).setCell (by simp) _).setCell (by simp) _).setCell (by simp) _).setCell (by simp) _).setCell (by simp) _).setCell (by simp) _).setCell (by simp) _).setCell (by simp) _).setCell (by simp) _
      · rw [show codeE true = 0 from rfl]
        have hff : FF = (⟨a, b, c, d, ⟨k1, d1, m1, w1, s1⟩, ⟨k2, d2, m2, w2, s2⟩⟩, 0) := HFIN.out
        have HFF := Lib.hid hff
        clear hff
        go_wp2_with fail
        refine bodyPost_ret (v := .tuple #[.agg #[.string a, .int .i64 b, .string c, .int .i64 d, .int .i64 k1, .int .i64 d1, .int .i64 m1, .int .i64 w1, .int .i64 s1, .int .i64 k2, .int .i64 d2, .int .i64 m2, .int .i64 w2, .int .i64 s2], .int .i64 0]) (by simp [results, Tryz.results35, go_sem, r0, r1, r2, r3, r4, r5, r6, r7, r8, r9, r10, r11, r12, r13]) rfl ?_
        refine ⟨by rw [HFF.out]; rfl, ?_⟩
        exact (((((((((((((HB9.out.below.setCell (by simp) _).setCell (by simp) _).setCell (by simp) _).setCell (by simp) _).setCell (by simp) _).setCell (by simp) _).setCell (by simp) _).setCell (by simp) _).setCell (by simp) _).setCell (by simp) _).setCell (by simp) _).setCell (by simp) _).setCell (by simp) _).setCell (by simp) _
    · have n3 : decide (0 < (bs Rl).size) = true := decide_eq_true (by have := List.length_pos_iff.2 hl0; rw [bs_size]; omega)
      have hff : FF = (Pos.zero, 5) := by rw [HFIN.out, show (false || !Rl.isEmpty || !Rp.ok) = true by simp [hl0], if_pos rfl]
      have HFF := Lib.hid hff
      obtain ⟨⟨r0, r1, r2, r3, r4, r5, r6, r7, r8, r9, r10, r11, r12, r13⟩, ⟨f0, f1, f2, f3, f4, f5, f6, f7, f8, f9, f10, f11, f12, f13⟩⟩ := hcut.rrow
      clear hcut hl0 hff hsz1 hsz2
      go_wp2_with fail
      refine bodyPost_ret (v := .tuple #[.agg #[.string ⟨#[]⟩, .int .i64 0, .string ⟨#[]⟩, .int .i64 0, .int .i64 0, .int .i64 0, .int .i64 0, .int .i64 0, .int .i64 0, .int .i64 0, .int .i64 0, .int .i64 0, .int .i64 0, .int .i64 0], .int .i64 5]) (by simp [results, Tryz.results35, go_sem, r0, r1, r2, r3, r4, r5, r6, r7, r8, r9, r10, r11, r12, r13]) rfl ?_
      refine ⟨by rw [HFF.out]; rfl, ?_⟩
      exact (((((((((((((HBW.out.setCell (by simp) _).setCell (by simp) _).setCell (by simp) _).setCell (by simp) _).setCell (by simp) _).setCell (by simp) _).setCell (by simp) _).setCell (by simp) _).setCell (by simp) _).setCell (by simp) _).setCell (by simp) _).setCell (by simp) _).setCell (by simp) _).setCell (by simp) _
  · have hff : FF = (Pos.zero, 5) := by rw [HFIN.out, Bool.true_or, Bool.true_or, if_pos rfl]
    have HFF := Lib.hid hff
    obtain ⟨⟨r0, r1, r2, r3, r4, r5, r6, r7, r8, r9, r10, r11, r12, r13⟩, ⟨f0, f1, f2, f3, f4, f5, f6, f7, f8, f9, f10, f11, f12, f13⟩⟩ := hcut.rrow
    clear hcut hff hsz1 hsz2
    go_wp2_with fail
    refine bodyPost_ret (v := .tuple #[.agg #[.string ⟨#[]⟩, .int .i64 0, .string ⟨#[]⟩, .int .i64 0, .int .i64 0, .int .i64 0, .int .i64 0, .int .i64 0, .int .i64 0, .int .i64 0, .int .i64 0, .int .i64 0, .int .i64 0, .int .i64 0], .int .i64 5]) (by simp [results, Tryz.results35, go_sem, r0, r1, r2, r3, r4, r5, r6, r7, r8, r9, r10, r11, r12, r13]) rfl ?_
    refine ⟨by rw [HFF.out]; rfl, ?_⟩
    exact (((((((((((((HBW.out.setCell (by simp) _).setCell (by simp) _).setCell (by simp) _).setCell (by simp) _).setCell (by simp) _).setCell (by simp) _).setCell (by simp) _).setCell (by simp) _).setCell (by simp) _).setCell (by simp) _).setCell (by simp) _).setCell (by simp) _).setCell (by simp) _).setCell (by simp) _
set_option maxHeartbeats 1000000 in
set_option maxRecDepth 100000 in
theorem ref_parse_long (l : List UInt8) (hl : 100 < l.length) (w : World) :
 Calls Tryz.prog 35 #[.string (bs l)] w fun e w' => e = .returned (.tuple #[Pos.zero.val, .int .i64 6]) ∧ Below w.heap.size w w' := by
 have hz := bs_size l
 have i1 : (100 : Int) < ((bs l).size : Int) := by omega
 have i2 : (100 : Int) < (l.length : Int) := by omega
 go_enter Tryz.func35, Tryz.ntmps35
 go_wp2_with fail
 refine bodyPost_ret (v := .tuple #[.agg #[.string ⟨#[]⟩, .int .i64 0, .string ⟨#[]⟩, .int .i64 0, .int .i64 0, .int .i64 0, .int .i64 0, .int .i64 0, .int .i64 0, .int .i64 0, .int .i64 0, .int .i64 0, .int .i64 0, .int .i64 0], .int .i64 6]) (by simp [results, Tryz.results35, go_sem]) rfl ?_
 exact ⟨rfl, (Below.refl _ _).alloc (Nat.le_refl _) _⟩
theorem ref_parse_any (l : List UInt8) (w : World) :
 Calls Tryz.prog 35 #[.string (bs l)] w fun e w' => e = .returned (.tuple #[(finG rfF l).1.val, .int .i64 (finG rfF l).2]) ∧ Below w.heap.size w w' := by
 unfold finG
 by_cases h : 100 < l.length
 · rw [if_pos h]; exact ref_parse_long l h w
 · rw [if_neg h]; exact ref_parse_short l w (by omega)
end Go.Proofs.YtkpmmabdpeobaaaGreatDoor.Px
