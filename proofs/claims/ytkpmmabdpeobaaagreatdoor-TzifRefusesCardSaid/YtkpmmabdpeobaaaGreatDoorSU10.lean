/- The methods take, next, want and name of analemmaref37.Reader. The methods name, seconds and number of analemmaref37.Reader. The methods seconds and number of analemmaref37.Reader. The method date of analemmaref37.Reader. -/
import Derived.Test.YtkpmmabdpeobaaaGreatDoorSU7
import Derived.Test.YtkpmmabdpeobaaaGreatDoorSU8
import Derived.Deep.RegionWith
import Derived.Deep.CutBlock
import Derived.Deep.DeepCutAuto
import Derived.Outline
import Derived.Test.YtkpmmabdpeobaaaGreatDoorSU9
namespace Go.Proofs.YtkpmmabdpeobaaaGreatDoor.Px
open Go.RowKit
open Civ
open Off (run past digQ parseO parsePost)
def RfAt (w : World) (b : Nat) (l : List UInt8) (q : Bool) : Prop := w.heap[b]? = some (.cells #[.string (bs l), .bool q] 123 (0, 0))
theorem RfAt.lt {w : World} {b : Nat} {l : List UInt8} {q : Bool} (h : RfAt w b l q) : b < w.heap.size := lt_of_block h
theorem RfAt.keep {w w' : World} {b : Nat} {l : List UInt8} {q : Bool} (h : RfAt w b l q) (hB : Below w.heap.size w w') : RfAt w' b l q := (hB.block b h.lt).trans h
theorem RfAt.row {w : World} {b : Nat} {l : List UInt8} {q : Bool} (h : RfAt w b l q) : (w.cell? ⟨b, 0, none⟩ = some (.string (bs l)) ∧ w.cell? ⟨b, 1, none⟩ = some (.bool q)) ∧ w.frozen? ⟨b, 0, none⟩ = false ∧ w.frozen? ⟨b, 1, none⟩ = false :=
 ⟨⟨cells_at h 0, cells_at h 1⟩, free_at h 0, free_at h 1⟩
theorem RfAt.setL {w : World} {b : Nat} {l : List UInt8} {q : Bool} (h : RfAt w b l q) (m : List UInt8) : RfAt (w.setCell ⟨b, 0, none⟩ (.string (bs m))) b m q := cells_set h 0 _
theorem RfAt.setB {w : World} {b : Nat} {l : List UInt8} {q : Bool} (h : RfAt w b l q) (r : Bool) : RfAt (w.setCell ⟨b, 1, none⟩ (.bool r)) b l r := cells_set h 1 _
def RfPost (w : World) (b : Nat) (v : Value) (l : List UInt8) (q : Bool) (e : Ending) (w' : World) : Prop := e = .returned v ∧ But b w w' ∧ RfAt w' b l q
theorem bs_from (l : List UInt8) (k : Nat) (X : ByteArray) (hX : bs l = X) : X.extract k X.size = bs (l.drop k) := by subst hX; rw [Lib.extract_from]; rfl
theorem bs_upto (l : List UInt8) (k : Nat) (X : ByteArray) (hX : bs l = X) : X.extract 0 k = bs (l.take k) := by subst hX; rw [Lib.extract_upto]; rfl
set_option maxHeartbeats 1000000 in
theorem rf_take (n : Nat) (b : Nat) (l : List UInt8) (hl : l.length ≤ 1000000) (hn : n ≤ l.length) (q : Bool) (w : World) (h : RfAt w b l q) :
 Calls Tryz.prog 118 #[.pointer (some ⟨b, 0, none⟩), .int .i64 (n : Int)] w (RfPost w b (.string (bs (l.take n))) (l.drop n) q) := by
 obtain ⟨⟨c0, c1⟩, f0, f1⟩ := h.row
 have hz := bs_size l
 have HR := Lib.hid h
 obtain ⟨X, hX⟩ : ∃ X, bs l = X := ⟨_, rfl⟩
 rw [hX] at c0 hz
 have HX1 := Lib.hid (bs_upto l n X hX)
 have HX2 := Lib.hid (bs_from l n X hX)
 have i1 : (n : Int) ≤ (X.size : Int) := by omega
 have i0 : (0 : Int) ≤ (n : Int) := by omega
 have i2 : (X.size : Int) ≤ 1000000 := by omega
 clear h hX hz
 go_enter Tryz.func118, Tryz.ntmps118
 go_wp2_with fail
 go_ret
 refine ⟨congrArg (fun s => Ending.returned (Value.string s)) HX1.out, But.set _ _ _, ?_⟩
 rw [HX2.out]
 exact HR.out.setL _
set_option maxHeartbeats 1000000 in
theorem rf_next (c : UInt8) (b : Nat) (l : List UInt8) (hl : l.length ≤ 1000000) (q : Bool) (w : World) (h : RfAt w b l q) :
 Calls Tryz.prog 115 #[.pointer (some ⟨b, 0, none⟩), .int .u8 (c.toNat : Int)] w (RfPost w b (.bool (nextB c l)) (nextR c l) q) := by
 obtain ⟨⟨c0, c1⟩, f0, f1⟩ := h.row
 have hz := bs_size l
 have HR := Lib.hid h
 cases l with
 | nil =>
   have t0 : ((bs []).size : Int) = 0 := by rw [hz]; rfl
   have HN := Lib.hid (show nextB c [] = false ∧ nextR c [] = [] from ⟨rfl, rfl⟩)
   rw [HN.out.1, HN.out.2]
   clear h hz
   go_enter Tryz.func115, Tryz.ntmps115
   go_wp2_with fail
   go_ret
   exact ⟨rfl, But.refl _ _, HR.out⟩
 | cons a r =>
   have CT := Lib.hid (fun w2 h2 => rf_take 1 b (a :: r) hl (by simp) q w2 h2)
   unfold RfPost at CT
   have hx0 : 0 < (bs (a :: r)).size := by rw [hz]; simp
   have hxa : (bs (a :: r))[0] = a := by
    have := Off.headD_zero (bs (a :: r)) hx0
    rw [bs_list] at this
    exact this.symm
   have i0 : (0 : Int) < ((bs (a :: r)).size : Int) := by omega
   have t0 : (((bs (a :: r)).size : Int) == 0) = false := by rw [beq_eq_false_iff_ne]; omega
   by_cases hac : a = c
   · have HN := Lib.hid (show nextB c (a :: r) = true ∧ nextR c (a :: r) = (a :: r).drop 1 by
       have e : nextB c (a :: r) = true := by unfold nextB; rw [hac]; simp
       exact ⟨e, by unfold nextR; rw [e, if_pos rfl]⟩)
     rw [HN.out.1, HN.out.2]
     have t1 : (((bs (a :: r))[0].toNat : Int) != (c.toNat : Int)) = false := by rw [hxa, hac, bne_eq_false_iff_eq]
     obtain ⟨X, hX⟩ : ∃ X, bs (a :: r) = X := ⟨_, rfl⟩
     have tt : ∃ h : 0 < X.size, ((X[0].toNat : Int) != (c.toNat : Int)) = false := by subst hX; exact ⟨hx0, t1⟩
     rw [hX] at c0 t0 i0
     obtain ⟨hX0, t2⟩ := tt
     clear h hz hx0 hxa hac t1 hX
     go_enter Tryz.func115, Tryz.ntmps115
     go_wp2_with fail
     refine (CT.out _ HR.out).mono ?_
     rintro _ V ⟨rfl, hb, hr⟩
     have HB := Lib.hid hb
     have HV := Lib.hid hr
     clear hb hr
     go_wp2_with fail
     go_ret
     exact ⟨rfl, HB.out, HV.out⟩
   · have HN := Lib.hid (show nextB c (a :: r) = false ∧ nextR c (a :: r) = (a :: r) by
       have e : nextB c (a :: r) = false := by
        unfold nextB
        rw [List.head?_cons, Bool.eq_false_iff]
        intro h
        exact hac (Option.some.inj (eq_of_beq h))
       exact ⟨e, by unfold nextR; rw [e, if_neg (by decide)]⟩)
     rw [HN.out.1, HN.out.2]
     have t1 : (((bs (a :: r))[0].toNat : Int) != (c.toNat : Int)) = true := by
      rw [hxa, bne_iff_ne]
      intro h
      exact hac (UInt8.toNat_inj.1 (by omega))
     obtain ⟨X, hX⟩ : ∃ X, bs (a :: r) = X := ⟨_, rfl⟩
     have tt : ∃ h : 0 < X.size, ((X[0].toNat : Int) != (c.toNat : Int)) = true := by subst hX; exact ⟨hx0, t1⟩
     rw [hX] at c0 t0 i0
     obtain ⟨hX0, t2⟩ := tt
     clear h hz hx0 hxa hac t1 hX
     go_enter Tryz.func115, Tryz.ntmps115
     go_wp2_with fail
     go_ret
     exact ⟨rfl, But.refl _ _, HR.out⟩
set_option maxHeartbeats 1000000 in
theorem rf_want (c : UInt8) (b : Nat) (l : List UInt8) (hl : l.length ≤ 1000000) (q : Bool) (w : World) (h : RfAt w b l q) :
 Calls Tryz.prog 70 #[.pointer (some ⟨b, 0, none⟩), .int .u8 (c.toNat : Int)] w (fun e w' => ∃ v, RfPost w b v (nextR c l) (q || !nextB c l) e w') := by
 have CN := Lib.hid (fun w2 h2 => rf_next c b l hl q w2 h2)
 unfold RfPost at CN
 have HR := Lib.hid h
 obtain ⟨n, hn⟩ : ∃ n, nextB c l = n := ⟨_, rfl⟩
 rw [hn] at CN ⊢
 clear h hn
 go_enter Tryz.func70, Tryz.ntmps70
 go_wp2_with fail
 refine (CN.out _ HR.out).mono ?_
 rintro e V ⟨rfl, hb, hr⟩
 have HB := Lib.hid hb
 have HV := Lib.hid hr
 obtain ⟨⟨d0, d1⟩, g0, g1⟩ := hr.row
 clear hb hr
 cases n
 · go_wp2_with fail
   go_end0
   exact ⟨_, rfl, HB.out.trans (But.set _ _ _), by rw [show (q || !false) = true by cases q <;> rfl]; exact HV.out.setB _⟩
 · go_wp2_with fail
   go_end0
   exact ⟨_, rfl, HB.out, by rw [show (q || !true) = q by cases q <;> rfl]; exact HV.out⟩
end Go.Proofs.YtkpmmabdpeobaaaGreatDoor.Px
namespace Go.Proofs.YtkpmmabdpeobaaaGreatDoor.Px
open Go.RowKit
open Civ
open Off (run past digQ parseO parsePost)
theorem at_list {l : List UInt8} {X : ByteArray} (hX : bs l = X) (k : Nat) (h : k < X.size) : ∃ h2 : k < l.length, l[k] = X[k] := by
 subst hX
 exact ⟨by rw [bs_size] at h; exact h, rfl⟩
theorem all_snoc {p : UInt8 → Bool} {l : List UInt8} {k : Nat} (h : k < l.length) (ha : (l.take k).all p = true) (hc : p l[k] = true) : (l.take (k + 1)).all p = true := by
 rw [List.take_succ_eq_append_getElem h, List.all_append, ha]; simp [hc]
set_option maxHeartbeats 2000000 in
set_option maxRecDepth 100000 in
theorem rf_name_plain (b : Nat) (l : List UInt8) (hl : l.length ≤ 1000000) (hq : nextB 60 l = false) (q : Bool) (w : World) (h : RfAt w b l q) :
 Calls Tryz.prog 68 #[.pointer (some ⟨b, 0, none⟩)] w (RfPost w b (.string (bs (nmS l))) (nmR l) (q || nmB l || !nameOk (nmS l))) := by
 have CN := Lib.hid (fun w2 h2 => rf_next 60 b l hl q w2 h2)
 unfold RfPost at CN
 rw [hq] at CN
 have hl1 := nextR_le 60 l
 unfold nmS nmR nmB nmT nmP
 rw [hq]
 rw [if_neg (by decide), if_neg (by decide), Bool.false_and, Bool.or_false]
 obtain ⟨l1, hl1e⟩ : ∃ x, nextR 60 l = x := ⟨_, rfl⟩
 rw [hl1e] at CN hl1 ⊢
 have hl1z : l1.length ≤ 1000000 := by omega
 have HR := Lib.hid h
 have hz := bs_size l1
 obtain ⟨X, hX⟩ : ∃ X, bs l1 = X := ⟨_, rfl⟩
 rw [hX] at hz
 have HX := Lib.hid hX
 have hz2 : X.size ≤ 1000000 := by omega
 have HZ := Lib.hid hz
 clear h hl1e hX hz hl1 hq
 go_enter Tryz.func68, Tryz.ntmps68
 go_wp2_with fail
 refine (CN.out _ HR.out).mono ?_
 rintro e V ⟨rfl, hb, hr⟩
 have HB := Lib.hid hb
 have HV := Lib.hid hr
 have c0 := hr.row.1.1
 rw [HX.out] at c0
 clear hb hr
 go_wp2_with fail
 go_loop [4] (fun i => ∃ k : Nat, i = .int .i64 k ∧ k ≤ X.size ∧ (l1.take k).all letC = true) (fun i => X.size - (intOf i).toNat)
 case atStart => exact ⟨0, rfl, Nat.zero_le _, rfl⟩
 case round =>
  obtain ⟨k, rfl, hk, hall⟩ := hrel
  have HALL := Lib.hid hall
  clear hall
  have hexit : (k = X.size ∨ ∃ h : k < X.size, letC X[k] = false) → run letC l1 = l1.take k ∧ past letC l1 = l1.drop k := by
   intro h
   refine Off.run_of k l1 (by rw [← HZ.out]; exact hk) HALL.out ?_
   rcases h with h | ⟨h, h2⟩
   · left; rw [h, HZ.out]
   · right
     obtain ⟨h3, h4⟩ := at_list HX.out k h
     exact ⟨h3, by rw [h4]; exact h2⟩
  have HEXIT := Lib.hid hexit
  clear hexit
  have CT := Lib.hid (fun w2 h2 => rf_take k b l1 hl1z (by rw [← HZ.out]; exact hk) q w2 h2)
  have CNM := Lib.hid (fun w2 => ref_name (bs (l1.take k)) (by rw [bs_size, List.length_take]; have := HZ.out; omega) w2)
  unfold RfPost at CT
  unfold NamePost at CNM
  have CW := Lib.hid (fun q2 w2 h2 => rf_want 62 b (l1.drop k) (by rw [List.length_drop]; omega) q2 w2 h2)
  unfold RfPost at CW
  by_cases hlt : k < X.size
  · have i1 : (k : Int) < (X.size : Int) := by omega
    have i0 : (0 : Int) ≤ (k : Int) := by omega
    have i2 : decide ((k : Int) < (X.size : Int)) = true := decide_eq_true i1
    obtain ⟨c1, hc1⟩ : ∃ c, letC X[k] = c := ⟨_, rfl⟩
    obtain ⟨c2, hc2⟩ : ∃ c, othC X[k] = c := ⟨_, rfl⟩
    have C1 := Lib.hid (ref_letter X[k] c1 hc1)
    have C2 := Lib.hid (ref_other X[k] c2 hc2)
    cases c1
    · have HRP := Lib.hid (HEXIT.out (.inr ⟨hlt, hc1⟩))
      clear hc1 hc2
      go_wp2_with fail
      refine (C1.out _).mono ?_
      rintro e w' ⟨rfl, rfl⟩
      go_wp2_with fail
      refine (CT.out _ HV.out).mono ?_
      rintro _ V2 ⟨rfl, hb, hr⟩
      have HB2 := Lib.hid (HB.out.trans hb)
      have HV2 := Lib.hid hr
      clear hb hr
      go_wp2_with fail
      refine (CNM.out _).mono ?_
      rintro _ _ ⟨bx, rfl, _, rfl⟩
      obtain ⟨⟨d0, d1⟩, g0, g1⟩ := HV2.out.row
      rw [bs_list]
      obtain ⟨ok, hok⟩ : ∃ o, nameOk (l1.take k) = o := ⟨_, rfl⟩
      have HS := Lib.hid (show nameOk (run letC l1) = ok by rw [HRP.out.1, hok])
      rw [hok]
      clear hok
      cases ok
      · go_wp2_with fail
        go_ret
        refine ⟨congrArg (fun s => Ending.returned (Value.string (bs s))) HRP.out.1.symm, HB2.out.trans (But.set _ _ _), ?_⟩
        rw [HS.out, HRP.out.2, show (q || !false) = true by simp]
        exact HV2.out.setB true
      · go_wp2_with fail
        go_ret
        refine ⟨congrArg (fun s => Ending.returned (Value.string (bs s))) HRP.out.1.symm, HB2.out, ?_⟩
        rw [HS.out, HRP.out.2, show (q || !true) = q by simp]
        exact HV2.out
    · have HNX := Lib.hid (show (l1.take (k + 1)).all letC = true by
        obtain ⟨h3, h4⟩ := at_list HX.out k hlt
        exact all_snoc h3 HALL.out (by rw [h4]; exact hc1))
      clear hc1 hc2
      go_wp2_with fail
      refine (C1.out _).mono ?_
      rintro e w' ⟨rfl, rfl⟩
      go_wp2_with fail
      exact ⟨⟨k + 1, by go_num, by omega, HNX.out⟩, by simp [intOf]; omega⟩
  · have i2 : decide ((k : Int) < (X.size : Int)) = false := decide_eq_false (by omega)
    have HRP := Lib.hid (HEXIT.out (.inl (by omega)))
    go_wp2_with fail
    refine (CT.out _ HV.out).mono ?_
    rintro _ V2 ⟨rfl, hb, hr⟩
    have HB2 := Lib.hid (HB.out.trans hb)
    have HV2 := Lib.hid hr
    clear hb hr
    go_wp2_with fail
    refine (CNM.out _).mono ?_
    rintro _ _ ⟨bx, rfl, _, rfl⟩
    obtain ⟨⟨d0, d1⟩, g0, g1⟩ := HV2.out.row
    rw [bs_list]
    obtain ⟨ok, hok⟩ : ∃ o, nameOk (l1.take k) = o := ⟨_, rfl⟩
    have HS := Lib.hid (show nameOk (run letC l1) = ok by rw [HRP.out.1, hok])
    rw [hok]
    clear hok
    cases ok
    · go_wp2_with fail
      go_ret
      refine ⟨congrArg (fun s => Ending.returned (Value.string (bs s))) HRP.out.1.symm, HB2.out.trans (But.set _ _ _), ?_⟩
      rw [HS.out, HRP.out.2, show (q || !false) = true by simp]
      exact HV2.out.setB true
    · go_wp2_with fail
      go_ret
      refine ⟨congrArg (fun s => Ending.returned (Value.string (bs s))) HRP.out.1.symm, HB2.out, ?_⟩
      rw [HS.out, HRP.out.2, show (q || !true) = q by simp]
      exact HV2.out
set_option maxHeartbeats 2000000 in
set_option maxRecDepth 100000 in
theorem rf_name_quoted (b : Nat) (l : List UInt8) (hl : l.length ≤ 1000000) (hq : nextB 60 l = true) (q : Bool) (w : World) (h : RfAt w b l q) :
 Calls Tryz.prog 68 #[.pointer (some ⟨b, 0, none⟩)] w (RfPost w b (.string (bs (nmS l))) (nmR l) (q || nmB l || !nameOk (nmS l))) := by
 have CN := Lib.hid (fun w2 h2 => rf_next 60 b l hl q w2 h2)
 unfold RfPost at CN
 rw [hq] at CN
 have hl1 := nextR_le 60 l
 unfold nmS nmR nmB nmT nmP
 rw [hq]
 rw [if_pos rfl, if_pos rfl, Bool.true_and]
 obtain ⟨l1, hl1e⟩ : ∃ x, nextR 60 l = x := ⟨_, rfl⟩
 rw [hl1e] at CN hl1 ⊢
 have hl1z : l1.length ≤ 1000000 := by omega
 have HR := Lib.hid h
 have hz := bs_size l1
 obtain ⟨X, hX⟩ : ∃ X, bs l1 = X := ⟨_, rfl⟩
 rw [hX] at hz
 have HX := Lib.hid hX
 have hz2 : X.size ≤ 1000000 := by omega
 have HZ := Lib.hid hz
 clear h hl1e hX hz hl1 hq
 go_enter Tryz.func68, Tryz.ntmps68
 go_wp2_with fail
 refine (CN.out _ HR.out).mono ?_
 rintro e V ⟨rfl, hb, hr⟩
 have HB := Lib.hid hb
 have HV := Lib.hid hr
 have c0 := hr.row.1.1
 rw [HX.out] at c0
 clear hb hr
 go_wp2_with fail
 go_loop [4] (fun i => ∃ k : Nat, i = .int .i64 k ∧ k ≤ X.size ∧ (l1.take k).all inB = true) (fun i => X.size - (intOf i).toNat)
 case atStart => exact ⟨0, rfl, Nat.zero_le _, rfl⟩
 case round =>
  obtain ⟨k, rfl, hk, hall⟩ := hrel
  have HALL := Lib.hid hall
  clear hall
  have hexit : (k = X.size ∨ ∃ h : k < X.size, inB X[k] = false) → run inB l1 = l1.take k ∧ past inB l1 = l1.drop k := by
   intro h
   refine Off.run_of k l1 (by rw [← HZ.out]; exact hk) HALL.out ?_
   rcases h with h | ⟨h, h2⟩
   · left; rw [h, HZ.out]
   · right
     obtain ⟨h3, h4⟩ := at_list HX.out k h
     exact ⟨h3, by rw [h4]; exact h2⟩
  have HEXIT := Lib.hid hexit
  clear hexit
  have CT := Lib.hid (fun w2 h2 => rf_take k b l1 hl1z (by rw [← HZ.out]; exact hk) q w2 h2)
  have CNM := Lib.hid (fun w2 => ref_name (bs (l1.take k)) (by rw [bs_size, List.length_take]; have := HZ.out; omega) w2)
  unfold RfPost at CT
  unfold NamePost at CNM
  have CW := Lib.hid (fun q2 w2 h2 => rf_want 62 b (l1.drop k) (by rw [List.length_drop]; omega) q2 w2 h2)
  unfold RfPost at CW
  by_cases hlt : k < X.size
  · have i1 : (k : Int) < (X.size : Int) := by omega
    have i0 : (0 : Int) ≤ (k : Int) := by omega
    have i2 : decide ((k : Int) < (X.size : Int)) = true := decide_eq_true i1
    obtain ⟨c1, hc1⟩ : ∃ c, letC X[k] = c := ⟨_, rfl⟩
    obtain ⟨c2, hc2⟩ : ∃ c, othC X[k] = c := ⟨_, rfl⟩
    have C1 := Lib.hid (ref_letter X[k] c1 hc1)
    have C2 := Lib.hid (ref_other X[k] c2 hc2)
    cases c1
    · cases c2
      · have HRP := Lib.hid (HEXIT.out (.inr ⟨hlt, by unfold inB; rw [hc1, hc2]; rfl⟩))
        clear hc1 hc2
        go_wp2_with fail
        refine (C1.out _).mono ?_
        rintro e w' ⟨rfl, rfl⟩
        go_wp2_with fail
        refine (C2.out _).mono ?_
        rintro e w' ⟨rfl, rfl⟩
        go_wp2_with fail
        refine (CT.out _ HV.out).mono ?_
        rintro _ V2 ⟨rfl, hb, hr⟩
        have HB2 := Lib.hid (HB.out.trans hb)
        have HV2 := Lib.hid hr
        clear hb hr
        go_wp2_with fail
        refine (CNM.out _).mono ?_
        rintro _ _ ⟨bx, rfl, _, rfl⟩
        obtain ⟨⟨d0, d1⟩, g0, g1⟩ := HV2.out.row
        rw [bs_list]
        obtain ⟨ok, hok⟩ : ∃ o, nameOk (l1.take k) = o := ⟨_, rfl⟩
        have HS := Lib.hid (show nameOk (run inB l1) = ok by rw [HRP.out.1, hok])
        rw [hok]
        clear hok
        cases ok
        · go_wp2_with fail
          refine (CW.out true _ (HV2.out.setB true)).mono ?_
          rintro _ V3 ⟨_, rfl, hb, hr⟩
          have HB3 := Lib.hid ((HB2.out.trans (But.set _ _ _)).trans hb)
          have HV3 := Lib.hid hr
          clear hb hr
          go_wp2_with fail
          go_ret
          refine ⟨congrArg (fun s => Ending.returned (Value.string (bs s))) HRP.out.1.symm, HB3.out, ?_⟩
          rw [HS.out, HRP.out.2, show (q || !nextB 62 (l1.drop k) || !false) = (true || !nextB 62 (l1.drop k)) by simp]
          exact HV3.out
        · go_wp2_with fail
          refine (CW.out q _ HV2.out).mono ?_
          rintro _ V3 ⟨_, rfl, hb, hr⟩
          have HB3 := Lib.hid (HB2.out.trans hb)
          have HV3 := Lib.hid hr
          clear hb hr
          go_wp2_with fail
          go_ret
          refine ⟨congrArg (fun s => Ending.returned (Value.string (bs s))) HRP.out.1.symm, HB3.out, ?_⟩
          rw [HS.out, HRP.out.2, show (q || !nextB 62 (l1.drop k) || !true) = (q || !nextB 62 (l1.drop k)) by simp]
          exact HV3.out
      · have HNX := Lib.hid (show (l1.take (k + 1)).all inB = true by
          obtain ⟨h3, h4⟩ := at_list HX.out k hlt
          exact all_snoc h3 HALL.out (by rw [h4]; unfold inB; rw [hc1, hc2]; rfl))
        clear hc1 hc2
        go_wp2_with fail
        refine (C1.out _).mono ?_
        rintro e w' ⟨rfl, rfl⟩
        go_wp2_with fail
        refine (C2.out _).mono ?_
        rintro e w' ⟨rfl, rfl⟩
        go_wp2_with fail
        exact ⟨⟨k + 1, by go_num, by omega, HNX.out⟩, by simp [intOf]; omega⟩
    · have HNX := Lib.hid (show (l1.take (k + 1)).all inB = true by
        obtain ⟨h3, h4⟩ := at_list HX.out k hlt
        exact all_snoc h3 HALL.out (by rw [h4]; unfold inB; rw [hc1]; rfl))
      clear hc1 hc2
      go_wp2_with fail
      refine (C1.out _).mono ?_
      rintro e w' ⟨rfl, rfl⟩
      go_wp2_with fail
      exact ⟨⟨k + 1, by go_num, by omega, HNX.out⟩, by simp [intOf]; omega⟩
  · have i2 : decide ((k : Int) < (X.size : Int)) = false := decide_eq_false (by omega)
    have HRP := Lib.hid (HEXIT.out (.inl (by omega)))
    go_wp2_with fail
    refine (CT.out _ HV.out).mono ?_
    rintro _ V2 ⟨rfl, hb, hr⟩
    have HB2 := Lib.hid (HB.out.trans hb)
    have HV2 := Lib.hid hr
    clear hb hr
    go_wp2_with fail
    refine (CNM.out _).mono ?_
    rintro _ _ ⟨bx, rfl, _, rfl⟩
    obtain ⟨⟨d0, d1⟩, g0, g1⟩ := HV2.out.row
    rw [bs_list]
    obtain ⟨ok, hok⟩ : ∃ o, nameOk (l1.take k) = o := ⟨_, rfl⟩
    have HS := Lib.hid (show nameOk (run inB l1) = ok by rw [HRP.out.1, hok])
    rw [hok]
    clear hok
    cases ok
    · go_wp2_with fail
      refine (CW.out true _ (HV2.out.setB true)).mono ?_
      rintro _ V3 ⟨_, rfl, hb, hr⟩
      have HB3 := Lib.hid ((HB2.out.trans (But.set _ _ _)).trans hb)
      have HV3 := Lib.hid hr
      clear hb hr
      go_wp2_with fail
      go_ret
      refine ⟨congrArg (fun s => Ending.returned (Value.string (bs s))) HRP.out.1.symm, HB3.out, ?_⟩
      rw [HS.out, HRP.out.2, show (q || !nextB 62 (l1.drop k) || !false) = (true || !nextB 62 (l1.drop k)) by simp]
      exact HV3.out
    · go_wp2_with fail
      refine (CW.out q _ HV2.out).mono ?_
      rintro _ V3 ⟨_, rfl, hb, hr⟩
      have HB3 := Lib.hid (HB2.out.trans hb)
      have HV3 := Lib.hid hr
      clear hb hr
      go_wp2_with fail
      go_ret
      refine ⟨congrArg (fun s => Ending.returned (Value.string (bs s))) HRP.out.1.symm, HB3.out, ?_⟩
      rw [HS.out, HRP.out.2, show (q || !nextB 62 (l1.drop k) || !true) = (q || !nextB 62 (l1.drop k)) by simp]
      exact HV3.out
theorem rf_name (b : Nat) (l : List UInt8) (hl : l.length ≤ 1000000) (q : Bool) (w : World) (h : RfAt w b l q) :
 Calls Tryz.prog 68 #[.pointer (some ⟨b, 0, none⟩)] w (RfPost w b (.string (bs (nmS l))) (nmR l) (q || nmB l || !nameOk (nmS l))) := by
 cases hq : nextB 60 l
 · exact rf_name_plain b l hl hq q w h
 · exact rf_name_quoted b l hl hq q w h
end Go.Proofs.YtkpmmabdpeobaaaGreatDoor.Px
namespace Go.Proofs.YtkpmmabdpeobaaaGreatDoor.Px
open Go.RowKit
open Civ
open Off (run past digQ parseO parsePost valD)
theorem sec_cases (c : UInt8) : (secQ c = true ∧ (((c.toNat : Int) == 45) = true ∨ (((c.toNat : Int) == 45) = false ∧ (((c.toNat : Int) == 58) = true ∨ (((c.toNat : Int) == 58) = false ∧ decide ((48 : Int) ≤ (c.toNat : Int)) = true ∧ decide ((c.toNat : Int) ≤ 57) = true))))) ∨
 (secQ c = false ∧ ((c.toNat : Int) == 45) = false ∧ ((c.toNat : Int) == 58) = false ∧ (decide ((48 : Int) ≤ (c.toNat : Int)) = false ∨ (decide ((48 : Int) ≤ (c.toNat : Int)) = true ∧ decide ((c.toNat : Int) ≤ 57) = false))) := by
 unfold secQ Off.digQ
 by_cases h1 : c.toNat = 45
 · left; exact ⟨by simp [h1], .inl (by rw [beq_iff_eq]; omega)⟩
 · have e1 : ((c.toNat : Int) == 45) = false := by rw [beq_eq_false_iff_ne]; omega
   by_cases h2 : c.toNat = 58
   · left; exact ⟨by simp [h2], .inr ⟨e1, .inl (by rw [beq_iff_eq]; omega)⟩⟩
   · have e2 : ((c.toNat : Int) == 58) = false := by rw [beq_eq_false_iff_ne]; omega
     by_cases h3 : 48 ≤ c.toNat
     · by_cases h4 : c.toNat ≤ 57
       · left; exact ⟨by simp [h3, h4], .inr ⟨e1, .inr ⟨e2, decide_eq_true (by omega), decide_eq_true (by omega)⟩⟩⟩
       · right; exact ⟨by simp [h1, h2, h4], e1, e2, .inr ⟨decide_eq_true (by omega), decide_eq_false (by omega)⟩⟩
     · right; exact ⟨by simp [h1, h2, h3], e1, e2, .inl (decide_eq_false (by omega))⟩
theorem run_exit {p : UInt8 → Bool} {l : List UInt8} {X : ByteArray} (hX : bs l = X) {k : Nat} (hk : k ≤ X.size) (ha : (l.take k).all p = true) (h : k = X.size ∨ ∃ h : k < X.size, p X[k] = false) : run p l = l.take k ∧ past p l = l.drop k := by
 have hz : X.size = l.length := by rw [← hX, bs_size]
 refine Off.run_of k l (by omega) ha ?_
 rcases h with h | ⟨h, h2⟩
 · left; omega
 · right
   obtain ⟨h3, h4⟩ := at_list hX k h
   exact ⟨h3, by rw [h4]; exact h2⟩
set_option maxHeartbeats 2000000 in
set_option maxRecDepth 100000 in
theorem rf_seconds (b : Nat) (l : List UInt8) (hl : l.length ≤ 1000000) (q : Bool) (w : World) (h : RfAt w b l q) :
 Calls Tryz.prog 69 #[.pointer (some ⟨b, 0, none⟩)] w (RfPost w b (.int .i64 (scV l)) (scR l) (q || scB l)) := by
 unfold scV scR scB
 obtain ⟨x, hx⟩ : ∃ x, (parseO (run secQ l)).1 = x := ⟨_, rfl⟩
 obtain ⟨y, hy⟩ : ∃ x, (parseO (run secQ l)).2 = x := ⟨_, rfl⟩
 obtain ⟨R, hR⟩ : ∃ x, past secQ l = x := ⟨_, rfl⟩
 have HXY := Lib.hid (And.intro hx (And.intro hy hR))
 rw [hx, hy, hR]
 clear hx hy hR
 have HR := Lib.hid h
 have hz := bs_size l
 obtain ⟨X, hX⟩ : ∃ X, bs l = X := ⟨_, rfl⟩
 rw [hX] at hz
 have HX := Lib.hid hX
 have hz2 : X.size ≤ 1000000 := by omega
 have HZ := Lib.hid hz
 have c0 := h.row.1.1
 rw [hX] at c0
 clear h hX hz
 go_enter Tryz.func69, Tryz.ntmps69
 go_wp2_with fail
 go_loop [3] (fun i => ∃ k : Nat, i = .int .i64 k ∧ k ≤ X.size ∧ (l.take k).all secQ = true) (fun i => X.size - (intOf i).toNat)
 case atStart => exact ⟨0, rfl, Nat.zero_le _, rfl⟩
 case round =>
  obtain ⟨k, rfl, hk, hall⟩ := hrel
  have HALL := Lib.hid hall
  clear hall
  have HEXIT := Lib.hid (fun h => run_exit (p := secQ) HX.out hk HALL.out h)
  have CT := Lib.hid (fun w2 h2 => rf_take k b l hl (by rw [← HZ.out]; exact hk) q w2 h2)
  have CPP := Lib.hid (fun w2 => Off.ref_parse (bs (l.take k)) (by rw [bs_size, List.length_take]; omega) w2)
  unfold RfPost at CT
  unfold parsePost at CPP
  rw [bs_list] at CPP
  by_cases hlt : k < X.size
  · have i1 : (k : Int) < (X.size : Int) := by omega
    have i0 : (0 : Int) ≤ (k : Int) := by omega
    have i2 : decide ((k : Int) < (X.size : Int)) = true := decide_eq_true i1
    rcases sec_cases X[k] with ⟨hs, hc⟩ | ⟨hs, hc1, hc2, hc⟩
    · have HNX := Lib.hid (show (l.take (k + 1)).all secQ = true by
        obtain ⟨h3, h4⟩ := at_list HX.out k hlt
        exact all_snoc h3 HALL.out (by rw [h4]; exact hs))
      clear hs
      rcases hc with hc | ⟨hc1, hc | ⟨hc2, hc3, hc4⟩⟩
      all_goals
       go_wp2_with fail
       exact ⟨⟨k + 1, by go_num, by omega, HNX.out⟩, by simp [intOf]; omega⟩
    · have HRP := Lib.hid (HEXIT.out (.inr ⟨hlt, hs⟩))
      clear hs
      rcases hc with hc | ⟨hc, hc4⟩
      all_goals
       have hxy := HXY.out
       rw [HRP.out.1, HRP.out.2] at hxy
       rw [hxy.1, hxy.2.1] at CPP
       rw [hxy.2.2] at CT
       clear hxy
       go_wp2_with fail
       refine (CT.out _ HR.out).mono ?_
       rintro _ V2 ⟨rfl, hb, hr⟩
       have HB2 := Lib.hid hb
       have HV2 := Lib.hid hr
       clear hb hr
       go_wp2_with fail
       refine (CPP.out _).mono ?_
       rintro _ V3 ⟨rfl, hb⟩
       have HB3 := Lib.hid (HB2.out.trans (But.of_below hb (Nat.le_of_lt HV2.out.lt)))
       have HV3 := Lib.hid (HV2.out.keep hb)
       obtain ⟨⟨d0, d1⟩, g0, g1⟩ := (HV2.out.keep hb).row
       clear hb
       by_cases hy0 : y = 0
       · have HY := Lib.hid hy0
         have t0 : (y != 0) = false := by rw [bne_eq_false_iff_eq]; exact hy0
         clear hy0
         go_wp2_with fail
         go_ret
         exact ⟨rfl, HB3.out, by rw [HY.out, show (q || decide ((0 : Int) ≠ 0)) = q by simp]; exact HV3.out⟩
       · have t0 : (y != 0) = true := by rw [bne_iff_ne]; exact hy0
         have HY := Lib.hid hy0
         clear hy0
         go_wp2_with fail
         go_ret
         exact ⟨rfl, HB3.out.trans (But.set _ _ _), by rw [decide_eq_true HY.out, Bool.or_true]; exact HV3.out.setB true⟩
  · have i2 : decide ((k : Int) < (X.size : Int)) = false := decide_eq_false (by omega)
    have HRP := Lib.hid (HEXIT.out (.inl (by omega)))
    have hxy := HXY.out
    rw [HRP.out.1, HRP.out.2] at hxy
    rw [hxy.1, hxy.2.1] at CPP
    rw [hxy.2.2] at CT
    clear hxy
    go_wp2_with fail
    refine (CT.out _ HR.out).mono ?_
    rintro _ V2 ⟨rfl, hb, hr⟩
    have HB2 := Lib.hid hb
    have HV2 := Lib.hid hr
    clear hb hr
    go_wp2_with fail
    refine (CPP.out _).mono ?_
    rintro _ V3 ⟨rfl, hb⟩
    have HB3 := Lib.hid (HB2.out.trans (But.of_below hb (Nat.le_of_lt HV2.out.lt)))
    have HV3 := Lib.hid (HV2.out.keep hb)
    obtain ⟨⟨d0, d1⟩, g0, g1⟩ := (HV2.out.keep hb).row
    clear hb
    by_cases hy0 : y = 0
    · have HY := Lib.hid hy0
      have t0 : (y != 0) = false := by rw [bne_eq_false_iff_eq]; exact hy0
      clear hy0
      go_wp2_with fail
      go_ret
      exact ⟨rfl, HB3.out, by rw [HY.out, show (q || decide ((0 : Int) ≠ 0)) = q by simp]; exact HV3.out⟩
    · have t0 : (y != 0) = true := by rw [bne_iff_ne]; exact hy0
      have HY := Lib.hid hy0
      clear hy0
      go_wp2_with fail
      go_ret
      exact ⟨rfl, HB3.out.trans (But.set _ _ _), by rw [decide_eq_true HY.out, Bool.or_true]; exact HV3.out.setB true⟩
set_option maxHeartbeats 4000000 in
set_option maxRecDepth 100000 in
theorem rf_number (b : Nat) (l : List UInt8) (hl : l.length ≤ 1000000) (q : Bool) (w : World) (h : RfAt w b l q) :
 Calls Tryz.prog 121 #[.pointer (some ⟨b, 0, none⟩)] w (RfPost w b (.int .i64 (rfF.v l)) (nuR l) (q || rfF.b l)) := by
 have ev : rfF.v l = refV (run digQ l) := rfl
 have eb : rfF.b l = refB (run digQ l) := rfl
 rw [ev, eb]
 unfold nuR
 obtain ⟨v, hv⟩ : ∃ x, refV (run digQ l) = x := ⟨_, rfl⟩
 obtain ⟨bb, hbb⟩ : ∃ x, refB (run digQ l) = x := ⟨_, rfl⟩
 obtain ⟨R, hR⟩ : ∃ x, past digQ l = x := ⟨_, rfl⟩
 have HXY := Lib.hid (And.intro hv (And.intro hbb hR))
 rw [hv, hbb, hR]
 clear hv hbb hR ev eb
 have HR := Lib.hid h
 have hz := bs_size l
 obtain ⟨X, hX⟩ : ∃ X, bs l = X := ⟨_, rfl⟩
 rw [hX] at hz
 have HX := Lib.hid hX
 have hz2 : X.size ≤ 1000000 := by omega
 have HZ := Lib.hid hz
 have c0 := h.row.1.1
 rw [hX] at c0
 clear h hX hz
 go_enter Tryz.func121, Tryz.ntmps121
 go_wp2_with fail
 go_loop [3] (fun i => ∃ k : Nat, i = .int .i64 k ∧ k ≤ X.size ∧ (l.take k).all digQ = true) (fun i => X.size - (intOf i).toNat)
 case atStart => exact ⟨0, rfl, Nat.zero_le _, rfl⟩
 case round =>
  obtain ⟨k, rfl, hk, hall⟩ := hrel
  have HALL := Lib.hid hall
  clear hall
  have HEXIT := Lib.hid (fun h => run_exit (p := digQ) HX.out hk HALL.out h)
  have CT := Lib.hid (fun w2 h2 => rf_take k b l hl (by rw [← HZ.out]; exact hk) q w2 h2)
  unfold RfPost at CT
  by_cases hlt : k < X.size
  · have i1 : (k : Int) < (X.size : Int) := by omega
    have i0 : (0 : Int) ≤ (k : Int) := by omega
    have i2 : decide ((k : Int) < (X.size : Int)) = true := decide_eq_true i1
    by_cases hs : digQ X[k] = true
    · have HNX := Lib.hid (show (l.take (k + 1)).all digQ = true by
        obtain ⟨h3, h4⟩ := at_list HX.out k hlt
        exact all_snoc h3 HALL.out (by rw [h4]; exact hs))
      have hd := digit_of hs
      have hc3 : decide ((48 : Int) ≤ (X[k].toNat : Int)) = true := decide_eq_true (by omega)
      have hc4 : decide ((X[k].toNat : Int) ≤ 57) = true := decide_eq_true (by omega)
      clear hs hd
      go_wp2_with fail
      exact ⟨⟨k + 1, by go_num, by omega, HNX.out⟩, by simp [intOf]; omega⟩
    · have hs' : digQ X[k] = false := by simpa using hs
      have HRP := Lib.hid (HEXIT.out (.inr ⟨hlt, hs'⟩))
      have hc : decide ((48 : Int) ≤ (X[k].toNat : Int)) = false ∨ (decide ((48 : Int) ≤ (X[k].toNat : Int)) = true ∧ decide ((X[k].toNat : Int) ≤ 57) = false) := by
       unfold Off.digQ at hs
       by_cases h1 : 48 ≤ X[k].toNat
       · right; exact ⟨decide_eq_true (by omega), decide_eq_false (by intro h2; apply hs; simp; omega)⟩
       · left; exact decide_eq_false (by omega)
      clear hs hs'
      rcases hc with hc | ⟨hc, hc4⟩
      all_goals
       have hxy := HXY.out
       rw [HRP.out.1, HRP.out.2] at hxy
       obtain ⟨hv, hbb, hR⟩ := hxy
       rw [hR] at CT
       have hzk : (bs (l.take k)).size = k := by rw [bs_size, List.length_take]; have := HZ.out; omega
       cases hrb : refB (l.take k)
       · have hg := refB_iff.1 hrb
         have HV0 := Lib.hid (show v = (valD (l.take k) : Int) by rw [← hv]; unfold refV; rw [hrb]; rfl)
         have HBV := Lib.hid (show bb = false by rw [← hbb, hrb])
         have hk0 : 1 ≤ k := by
          have := List.length_pos_iff.2 hg.1
          rw [List.length_take] at this; omega
         have hk3 : k ≤ 3 := by have := hg.2.1; rw [List.length_take] at this; have := HZ.out; omega
         have hh : (k : Int) ≤ 1 ∨ ((1 : Int) < (k : Int) ∧ ∃ h : 0 < (bs (l.take k)).size, (((bs (l.take k))[0].toNat : Int) == 48) = false) := by
          by_cases hk1 : k = 1
          · left; omega
          · right
            refine ⟨by omega, by omega, ?_⟩
            rw [Off.head_at, beq_eq_false_iff_ne]
            intro h
            rcases hg.2.2 with h2 | h2
            · apply h2
              obtain ⟨a, t, e⟩ := List.exists_cons_of_ne_nil hg.1
              rw [e] at h ⊢
              rw [List.head?_cons]
              rw [List.headD_cons] at h
              rw [show a = 48 from UInt8.toNat_inj.1 (by have : (48 : UInt8).toNat = 48 := rfl; omega)]
            · rw [List.length_take] at h2; have := HZ.out; omega
         have t0 : ((k : Int) == 0) = false := by rw [beq_eq_false_iff_ne]; omega
         have j3 : (k : Int) ≤ 3 := by omega
         have hdig := HALL.out
         obtain ⟨m, hm⟩ : ∃ m, l.take k = m := ⟨_, rfl⟩
         rw [hm] at CT HV0 hh hzk hdig
         obtain ⟨S, hS⟩ : ∃ S, bs m = S := ⟨_, rfl⟩
         rw [hS] at CT hh hzk
         have HS := Lib.hid hS
         have HDG := Lib.hid hdig
         have js : (S.size : Int) = (k : Int) := by omega
         have JS := Lib.hid js
         have jsk : (k : Int) ≤ (S.size : Int) := by omega
         clear hrb hg hk0 hm hS hdig hv hbb hR hzk js HEXIT
         rcases hh with j1 | ⟨j1, j0, j2⟩
         all_goals
          go_wp2_with fail
          refine (CT.out _ HR.out).mono ?_
          rintro _ V2 ⟨rfl, hb, hr⟩
          have HB2 := Lib.hid hb
          have HV2 := Lib.hid hr
          clear hb hr
          go_wp2_with fail
          go_loop [5, 6] (fun x i => ∃ j : Nat, i = .int .i64 j ∧ j ≤ k ∧ x = .int .i64 (valD (m.take j) : Int)) (fun _ i => k - (intOf i).toNat)
          case atStart => exact ⟨0, rfl, Nat.zero_le _, rfl⟩
          case round =>
           obtain ⟨j, rfl, hj, rfl⟩ := hrel
           have hvl := Off.valD_lt (m.take j) (by
            have := HDG.out
            rw [List.all_eq_true] at this ⊢
            exact fun x hx => this x (List.mem_of_mem_take hx))
           have hvl2 := Nat.pow_le_pow_right (n := 10) (by decide) (show (m.take j).length ≤ 3 by rw [List.length_take]; omega)
           have hvl3 : (valD (m.take j) : Int) ≤ 999 := by omega
           clear hvl hvl2
           by_cases hjk : j < k
           · have q1 : (j : Int) < (k : Int) := by omega
             have q2 : (j : Int) < (S.size : Int) := by have := JS.out; omega
             have hjs : j < S.size := by omega
             obtain ⟨h3, h4⟩ := at_list HS.out j hjs
             have hdd := digit_of (List.all_eq_true.1 HDG.out _ (List.getElem_mem h3))
             rw [h4] at hdd
             have HNX := Lib.hid (show (valD (m.take (j + 1)) : Int) = 10 * (valD (m.take j) : Int) + ((S[j].toNat : Int) - 48) by
              rw [List.take_succ_eq_append_getElem h3, h4, Off.valD_snoc]; omega)
             have q3 : (48 : Int) ≤ (S[j].toNat : Int) := by omega
             have q4 : (S[j].toNat : Int) ≤ 57 := by omega
             obtain ⟨x, hx⟩ : ∃ x : Nat, valD (m.take j) = x := ⟨_, rfl⟩
             rw [hx] at HNX hvl3
             rw [hx]
             clear hdd hx h3 h4
             go_wp2_with fail
             go_round
             case rel => exact ⟨j + 1, by go_num, by omega, by rw [HNX.out]⟩
             case measure => simp [intOf]; omega
           · obtain rfl : j = k := by omega
             have HVK := Lib.hid (show valD (m.take j) = valD m by rw [List.take_of_length_le (by have := JS.out; rw [← HS.out, bs_size] at this; omega)])
             go_wp2_with fail
             go_ret
             exact ⟨ret1 (by rw [HV0.out, ← HVK.out]), HB2.out, by rw [HBV.out, Bool.or_false]; exact HV2.out⟩
       · have HV0 := Lib.hid (show v = 0 by rw [← hv]; unfold refV; rw [hrb]; rfl)
         have HBV := Lib.hid (show bb = true by rw [← hbb, hrb])
         by_cases hk0 : k = 0
         · have t0 : ((k : Int) == 0) = true := by rw [beq_iff_eq]; omega
           clear hrb hv hbb hR hzk hk0 HEXIT
           go_wp2_with fail
           refine (CT.out _ HR.out).mono ?_
           rintro _ V2 ⟨rfl, hb, hr⟩
           have HB2 := Lib.hid hb
           have HV2 := Lib.hid hr
           obtain ⟨⟨d0, d1⟩, g0, g1⟩ := hr.row
           clear hb hr
           go_wp2_with fail
           go_ret
           exact ⟨ret1 (by rw [HV0.out]), HB2.out.trans (But.set _ _ _), by rw [HBV.out, Bool.or_true]; exact HV2.out.setB true⟩
         · have t0 : ((k : Int) == 0) = false := by rw [beq_eq_false_iff_ne]; omega
           by_cases hk3 : 3 < k
           · have j3 : (3 : Int) < (k : Int) := by omega
             clear hrb hv hbb hR hzk hk0 HEXIT
             go_wp2_with fail
             refine (CT.out _ HR.out).mono ?_
             rintro _ V2 ⟨rfl, hb, hr⟩
             have HB2 := Lib.hid hb
             have HV2 := Lib.hid hr
             obtain ⟨⟨d0, d1⟩, g0, g1⟩ := hr.row
             clear hb hr
             go_wp2_with fail
             go_ret
             exact ⟨ret1 (by rw [HV0.out]), HB2.out.trans (But.set _ _ _), by rw [HBV.out, Bool.or_true]; exact HV2.out.setB true⟩
           · have j3 : (k : Int) ≤ 3 := by omega
             have hh : (1 : Int) < (k : Int) ∧ ∃ h : 0 < (bs (l.take k)).size, (((bs (l.take k))[0].toNat : Int) == 48) = true := by
              have hl0 : l.take k ≠ [] := by intro e; rw [e] at hzk; exact hk0 hzk.symm
              have hlk : (l.take k).length = k := by have h := hzk; rw [bs_size] at h; exact h
              by_cases hk1 : k = 1
              · exact absurd (refB_iff.2 ⟨hl0, by omega, .inr (by omega)⟩) (by rw [hrb]; decide)
              · refine ⟨by omega, by omega, ?_⟩
                rw [Off.head_at, beq_iff_eq]
                by_cases hh : (l.take k).head? = some 48
                · obtain ⟨a, t, e⟩ := List.exists_cons_of_ne_nil hl0
                  rw [e] at hh ⊢
                  rw [List.head?_cons] at hh
                  rw [List.headD_cons, Option.some.inj hh]; rfl
                · exact absurd (refB_iff.2 ⟨hl0, by omega, .inl hh⟩) (by rw [hrb]; decide)
             obtain ⟨S, hS⟩ : ∃ S, bs (l.take k) = S := ⟨_, rfl⟩
             rw [hS] at CT hh hzk
             obtain ⟨j1, j0, j2⟩ := hh
             have jsk : (k : Int) ≤ (S.size : Int) := by omega
             clear hrb hv hbb hR hzk hk0 hS HEXIT
             go_wp2_with fail
             refine (CT.out _ HR.out).mono ?_
             rintro _ V2 ⟨rfl, hb, hr⟩
             have HB2 := Lib.hid hb
             have HV2 := Lib.hid hr
             obtain ⟨⟨d0, d1⟩, g0, g1⟩ := hr.row
             clear hb hr
             go_wp2_with fail
             go_ret
             exact ⟨ret1 (by rw [HV0.out]), HB2.out.trans (But.set _ _ _), by rw [HBV.out, Bool.or_true]; exact HV2.out.setB true⟩
  · have i2 : decide ((k : Int) < (X.size : Int)) = false := decide_eq_false (by omega)
    have HRP := Lib.hid (HEXIT.out (.inl (by omega)))
    have hxy := HXY.out
    rw [HRP.out.1, HRP.out.2] at hxy
    obtain ⟨hv, hbb, hR⟩ := hxy
    rw [hR] at CT
    have hzk : (bs (l.take k)).size = k := by rw [bs_size, List.length_take]; have := HZ.out; omega
    cases hrb : refB (l.take k)
    · have hg := refB_iff.1 hrb
      have HV0 := Lib.hid (show v = (valD (l.take k) : Int) by rw [← hv]; unfold refV; rw [hrb]; rfl)
      have HBV := Lib.hid (show bb = false by rw [← hbb, hrb])
      have hk0 : 1 ≤ k := by
       have := List.length_pos_iff.2 hg.1
       rw [List.length_take] at this; omega
      have hk3 : k ≤ 3 := by have := hg.2.1; rw [List.length_take] at this; have := HZ.out; omega
      have hh : (k : Int) ≤ 1 ∨ ((1 : Int) < (k : Int) ∧ ∃ h : 0 < (bs (l.take k)).size, (((bs (l.take k))[0].toNat : Int) == 48) = false) := by
       by_cases hk1 : k = 1
       · left; omega
       · right
         refine ⟨by omega, by omega, ?_⟩
         rw [Off.head_at, beq_eq_false_iff_ne]
         intro h
         rcases hg.2.2 with h2 | h2
         · apply h2
           obtain ⟨a, t, e⟩ := List.exists_cons_of_ne_nil hg.1
           rw [e] at h ⊢
           rw [List.head?_cons]
           rw [List.headD_cons] at h
           rw [show a = 48 from UInt8.toNat_inj.1 (by have : (48 : UInt8).toNat = 48 := rfl; omega)]
         · rw [List.length_take] at h2; have := HZ.out; omega
      have t0 : ((k : Int) == 0) = false := by rw [beq_eq_false_iff_ne]; omega
      have j3 : (k : Int) ≤ 3 := by omega
      have hdig := HALL.out
      obtain ⟨m, hm⟩ : ∃ m, l.take k = m := ⟨_, rfl⟩
      rw [hm] at CT HV0 hh hzk hdig
      obtain ⟨S, hS⟩ : ∃ S, bs m = S := ⟨_, rfl⟩
      rw [hS] at CT hh hzk
      have HS := Lib.hid hS
      have HDG := Lib.hid hdig
      have js : (S.size : Int) = (k : Int) := by omega
      have JS := Lib.hid js
      have jsk : (k : Int) ≤ (S.size : Int) := by omega
      clear hrb hg hk0 hm hS hdig hv hbb hR hzk js HEXIT
      rcases hh with j1 | ⟨j1, j0, j2⟩
      all_goals
       go_wp2_with fail
       refine (CT.out _ HR.out).mono ?_
       rintro _ V2 ⟨rfl, hb, hr⟩
       have HB2 := Lib.hid hb
       have HV2 := Lib.hid hr
       clear hb hr
       go_wp2_with fail
       go_loop [5, 6] (fun x i => ∃ j : Nat, i = .int .i64 j ∧ j ≤ k ∧ x = .int .i64 (valD (m.take j) : Int)) (fun _ i => k - (intOf i).toNat)
       case atStart => exact ⟨0, rfl, Nat.zero_le _, rfl⟩
       case round =>
        obtain ⟨j, rfl, hj, rfl⟩ := hrel
        have hvl := Off.valD_lt (m.take j) (by
         have := HDG.out
         rw [List.all_eq_true] at this ⊢
         exact fun x hx => this x (List.mem_of_mem_take hx))
        have hvl2 := Nat.pow_le_pow_right (n := 10) (by decide) (show (m.take j).length ≤ 3 by rw [List.length_take]; omega)
        have hvl3 : (valD (m.take j) : Int) ≤ 999 := by omega
        clear hvl hvl2
        by_cases hjk : j < k
        · have q1 : (j : Int) < (k : Int) := by omega
          have q2 : (j : Int) < (S.size : Int) := by have := JS.out; omega
          have hjs : j < S.size := by omega
          obtain ⟨h3, h4⟩ := at_list HS.out j hjs
          have hdd := digit_of (List.all_eq_true.1 HDG.out _ (List.getElem_mem h3))
          rw [h4] at hdd
          have HNX := Lib.hid (show (valD (m.take (j + 1)) : Int) = 10 * (valD (m.take j) : Int) + ((S[j].toNat : Int) - 48) by
           rw [List.take_succ_eq_append_getElem h3, h4, Off.valD_snoc]; omega)
          have q3 : (48 : Int) ≤ (S[j].toNat : Int) := by omega
          have q4 : (S[j].toNat : Int) ≤ 57 := by omega
          obtain ⟨x, hx⟩ : ∃ x : Nat, valD (m.take j) = x := ⟨_, rfl⟩
          rw [hx] at HNX hvl3
          rw [hx]
          clear hdd hx h3 h4
          go_wp2_with fail
          go_round
          case rel => exact ⟨j + 1, by go_num, by omega, by rw [HNX.out]⟩
          case measure => simp [intOf]; omega
        · obtain rfl : j = k := by omega
          have HVK := Lib.hid (show valD (m.take j) = valD m by rw [List.take_of_length_le (by have := JS.out; rw [← HS.out, bs_size] at this; omega)])
          go_wp2_with fail
          go_ret
          exact ⟨ret1 (by rw [HV0.out, ← HVK.out]), HB2.out, by rw [HBV.out, Bool.or_false]; exact HV2.out⟩
    · have HV0 := Lib.hid (show v = 0 by rw [← hv]; unfold refV; rw [hrb]; rfl)
      have HBV := Lib.hid (show bb = true by rw [← hbb, hrb])
      by_cases hk0 : k = 0
      · have t0 : ((k : Int) == 0) = true := by rw [beq_iff_eq]; omega
        clear hrb hv hbb hR hzk hk0 HEXIT
        go_wp2_with fail
        refine (CT.out _ HR.out).mono ?_
        rintro _ V2 ⟨rfl, hb, hr⟩
        have HB2 := Lib.hid hb
        have HV2 := Lib.hid hr
        obtain ⟨⟨d0, d1⟩, g0, g1⟩ := hr.row
        clear hb hr
        go_wp2_with fail
        go_ret
        exact ⟨ret1 (by rw [HV0.out]), HB2.out.trans (But.set _ _ _), by rw [HBV.out, Bool.or_true]; exact HV2.out.setB true⟩
      · have t0 : ((k : Int) == 0) = false := by rw [beq_eq_false_iff_ne]; omega
        by_cases hk3 : 3 < k
        · have j3 : (3 : Int) < (k : Int) := by omega
          clear hrb hv hbb hR hzk hk0 HEXIT
          go_wp2_with fail
          refine (CT.out _ HR.out).mono ?_
          rintro _ V2 ⟨rfl, hb, hr⟩
          have HB2 := Lib.hid hb
          have HV2 := Lib.hid hr
          obtain ⟨⟨d0, d1⟩, g0, g1⟩ := hr.row
          clear hb hr
          go_wp2_with fail
          go_ret
          exact ⟨ret1 (by rw [HV0.out]), HB2.out.trans (But.set _ _ _), by rw [HBV.out, Bool.or_true]; exact HV2.out.setB true⟩
        · have j3 : (k : Int) ≤ 3 := by omega
          have hh : (1 : Int) < (k : Int) ∧ ∃ h : 0 < (bs (l.take k)).size, (((bs (l.take k))[0].toNat : Int) == 48) = true := by
           have hl0 : l.take k ≠ [] := by intro e; rw [e] at hzk; exact hk0 hzk.symm
           have hlk : (l.take k).length = k := by have h := hzk; rw [bs_size] at h; exact h
           by_cases hk1 : k = 1
           · exact absurd (refB_iff.2 ⟨hl0, by omega, .inr (by omega)⟩) (by rw [hrb]; decide)
           · refine ⟨by omega, by omega, ?_⟩
             rw [Off.head_at, beq_iff_eq]
             by_cases hh : (l.take k).head? = some 48
             · obtain ⟨a, t, e⟩ := List.exists_cons_of_ne_nil hl0
               rw [e] at hh ⊢
               rw [List.head?_cons] at hh
               rw [List.headD_cons, Option.some.inj hh]; rfl
             · exact absurd (refB_iff.2 ⟨hl0, by omega, .inl hh⟩) (by rw [hrb]; decide)
          obtain ⟨S, hS⟩ : ∃ S, bs (l.take k) = S := ⟨_, rfl⟩
          rw [hS] at CT hh hzk
          obtain ⟨j1, j0, j2⟩ := hh
          have jsk : (k : Int) ≤ (S.size : Int) := by omega
          clear hrb hv hbb hR hzk hk0 hS HEXIT
          go_wp2_with fail
          refine (CT.out _ HR.out).mono ?_
          rintro _ V2 ⟨rfl, hb, hr⟩
          have HB2 := Lib.hid hb
          have HV2 := Lib.hid hr
          obtain ⟨⟨d0, d1⟩, g0, g1⟩ := hr.row
          clear hb hr
          go_wp2_with fail
          go_ret
          exact ⟨ret1 (by rw [HV0.out]), HB2.out.trans (But.set _ _ _), by rw [HBV.out, Bool.or_true]; exact HV2.out.setB true⟩
end Go.Proofs.YtkpmmabdpeobaaaGreatDoor.Px
namespace Go.Proofs.YtkpmmabdpeobaaaGreatDoor.Px
open Go.RowKit
open Civ
open Off (run past digQ parseO parsePost)
def DfPost (w : World) (b : Nat) (r : Dr) (q : Bool) (e : Ending) (w' : World) : Prop := e = .returned r.d.val ∧ But b w w' ∧ RfAt w' b r.l (q || r.b)
structure Rfi (w : World) (b : Nat) (l : List UInt8) (q : Bool) (k d m x s : Int) (wr : World) : Prop where
 but : But b w wr
 rd : RfAt wr b l q
 res : wr.heap[w.heap.size]? = some (.cells #[.int .i64 0, .int .i64 0, .int .i64 0, .int .i64 0, .int .i64 0] 48 (0, 0))
 dt : wr.heap[w.heap.size + 1]? = some (.cells #[.int .i64 k, .int .i64 d, .int .i64 m, .int .i64 x, .int .i64 s] 48 (0, 0))
theorem Rfi.call {w : World} {b : Nat} {l l' : List UInt8} {q q' : Bool} {k d m x s : Int} {wr W : World} (h : Rfi w b l q k d m x s wr) (hlt : b < w.heap.size) (hB : But b wr W) (hr : RfAt W b l' q') : Rfi w b l' q' k d m x s W :=
 ⟨h.but.trans hB, hr, hB.heap h.res (by omega), hB.heap h.dt (by omega)⟩
theorem Rfi.row {w : World} {b : Nat} {l : List UInt8} {q : Bool} {k d m x s : Int} {wr : World} (h : Rfi w b l q k d m x s wr) :
 (wr.cell? ⟨w.heap.size + 1, 0, none⟩ = some (.int .i64 k) ∧ wr.cell? ⟨w.heap.size + 1, 1, none⟩ = some (.int .i64 d) ∧ wr.cell? ⟨w.heap.size + 1, 2, none⟩ = some (.int .i64 m) ∧ wr.cell? ⟨w.heap.size + 1, 3, none⟩ = some (.int .i64 x) ∧ wr.cell? ⟨w.heap.size + 1, 4, none⟩ = some (.int .i64 s)) ∧
 wr.frozen? ⟨w.heap.size + 1, 0, none⟩ = false ∧ wr.frozen? ⟨w.heap.size + 1, 1, none⟩ = false ∧ wr.frozen? ⟨w.heap.size + 1, 2, none⟩ = false ∧ wr.frozen? ⟨w.heap.size + 1, 3, none⟩ = false ∧ wr.frozen? ⟨w.heap.size + 1, 4, none⟩ = false :=
 ⟨⟨cells_at h.dt 0, cells_at h.dt 1, cells_at h.dt 2, cells_at h.dt 3, cells_at h.dt 4⟩, free_at h.dt 0, free_at h.dt 1, free_at h.dt 2, free_at h.dt 3, free_at h.dt 4⟩
theorem Rfi.set {w : World} {b : Nat} {l : List UInt8} {q : Bool} {k d m x s : Int} {wr : World} (h : Rfi w b l q k d m x s wr) (hlt : b < w.heap.size) (i : Nat) (u : Value) (k' d' m' x' s' : Int)
 (he : (#[.int .i64 k, .int .i64 d, .int .i64 m, .int .i64 x, .int .i64 s] : Array Value).setIfInBounds i u = #[.int .i64 k', .int .i64 d', .int .i64 m', .int .i64 x', .int .i64 s']) :
 Rfi w b l q k' d' m' x' s' (wr.setCell ⟨w.heap.size + 1, i, none⟩ u) := by
 have hb : But b wr (wr.setCell ⟨w.heap.size + 1, i, none⟩ u) → True := fun _ => trivial
 refine ⟨⟨h.but.below.setCell (by show b ≤ w.heap.size + 1; omega) u, fun j h1 h2 => (Below.heap_setCell _ _ _ _ (by show j ≠ w.heap.size + 1; omega)).trans (h.but.above j h1 h2)⟩, ?_, ?_, ?_⟩
 · exact (Below.heap_setCell _ _ _ _ (by show b ≠ w.heap.size + 1; omega)).trans h.rd
 · exact (Below.heap_setCell _ _ _ _ (by show w.heap.size ≠ w.heap.size + 1; omega)).trans h.res
 · rw [← he]; exact cells_set h.dt i u
theorem Rfi.rrow {w : World} {b : Nat} {l : List UInt8} {q : Bool} {k d m x s : Int} {wr : World} (h : Rfi w b l q k d m x s wr) :
 (wr.cell? ⟨w.heap.size, 0, none⟩ = some (.int .i64 0) ∧ wr.cell? ⟨w.heap.size, 1, none⟩ = some (.int .i64 0) ∧ wr.cell? ⟨w.heap.size, 2, none⟩ = some (.int .i64 0) ∧ wr.cell? ⟨w.heap.size, 3, none⟩ = some (.int .i64 0) ∧ wr.cell? ⟨w.heap.size, 4, none⟩ = some (.int .i64 0)) ∧
 wr.frozen? ⟨w.heap.size, 0, none⟩ = false ∧ wr.frozen? ⟨w.heap.size, 1, none⟩ = false ∧ wr.frozen? ⟨w.heap.size, 2, none⟩ = false ∧ wr.frozen? ⟨w.heap.size, 3, none⟩ = false ∧ wr.frozen? ⟨w.heap.size, 4, none⟩ = false :=
 ⟨⟨cells_at h.res 0, cells_at h.res 1, cells_at h.res 2, cells_at h.res 3, cells_at h.res 4⟩, free_at h.res 0, free_at h.res 1, free_at h.res 2, free_at h.res 3, free_at h.res 4⟩
structure RfB (w : World) (b : Nat) (l : List UInt8) (q : Bool) (wr : World) : Prop where
 but : But b w wr
 rd : RfAt wr b l q
theorem RfB.set {w : World} {b : Nat} {l : List UInt8} {q : Bool} {wr : World} (h : RfB w b l q wr) (hlt : b < w.heap.size) (k i : Nat) (hk : w.heap.size ≤ k) (u : Value) : RfB w b l q (wr.setCell ⟨k, i, none⟩ u) :=
 ⟨⟨h.but.below.setCell (by show b ≤ k; omega) u, fun j h1 h2 => (Below.heap_setCell _ _ _ _ (by show j ≠ k; omega)).trans (h.but.above j h1 h2)⟩, (Below.heap_setCell _ _ _ _ (by show b ≠ k; omega)).trans h.rd⟩
theorem Rfi.start (w : World) (b : Nat) (l : List UInt8) (q : Bool) (h : RfAt w b l q) : Rfi w b l q 2 0 0 0 7200 ((w.alloc (.cells #[.int .i64 0, .int .i64 0, .int .i64 0, .int .i64 0, .int .i64 0] 48)).alloc (.cells #[.int .i64 2, .int .i64 0, .int .i64 0, .int .i64 0, .int .i64 7200] 48)) := by
 have hz : (w.alloc (.cells #[.int .i64 0, .int .i64 0, .int .i64 0, .int .i64 0, .int .i64 0] 48)).heap.size = w.heap.size + 1 := by simp
 have hB : Below w.heap.size w ((w.alloc (.cells #[.int .i64 0, .int .i64 0, .int .i64 0, .int .i64 0, .int .i64 0] 48)).alloc (.cells #[.int .i64 2, .int .i64 0, .int .i64 0, .int .i64 0, .int .i64 7200] 48)) := ((Below.refl _ w).alloc (Nat.le_refl _) _).alloc (by simp) _
 refine ⟨But.of_below hB (Nat.le_of_lt h.lt), h.keep hB, heap_old (heap_new w _) _, ?_⟩
 have := heap_new (w.alloc (.cells #[.int .i64 0, .int .i64 0, .int .i64 0, .int .i64 0, .int .i64 0] 48)) (.cells #[.int .i64 2, .int .i64 0, .int .i64 0, .int .i64 0, .int .i64 7200] 48)
 rwa [hz] at this
set_option maxHeartbeats 1000000 in
set_option maxRecDepth 100000 in
theorem rf_date (b : Nat) (l : List UInt8) (hl : l.length ≤ 1000000) (q : Bool) (w : World) (h : RfAt w b l q) :
 Calls Tryz.prog 71 #[.pointer (some ⟨b, 0, none⟩)] w (DfPost w b (dateG rfF l) q) := by
 have hlt := h.lt
 have HI := Lib.hid (Rfi.start w b l q h)
 have CJ := Lib.hid (fun w2 h2 => rf_next 74 b l hl q w2 h2)
 have CM := Lib.hid (fun w2 h2 => rf_next 77 b l hl q w2 h2)
 unfold RfPost at CJ CM
 have hcs := head_cases rfF l
 have HDL := Lib.hid (head_le rfF l)
 have HDT := Lib.hid (show dateG rfF l = timeG (headG rfF l).kind (rfF.v (headG rfF l).l) (headG rfF l).month (headG rfF l).week (nuR (headG rfF l).l) ((headG rfF l).b || rfF.b (headG rfF l).l) from rfl)
 obtain ⟨H, hH⟩ : ∃ H, headG rfF l = H := ⟨_, rfl⟩
 obtain ⟨D, hD⟩ : ∃ D, dateG rfF l = D := ⟨_, rfl⟩
 rw [hH] at hcs HDL HDT
 rw [hD] at HDT ⊢
 obtain ⟨hk, hm, hw, hll, hbb⟩ := H
 clear h hH hD
 go_enter Tryz.func71, Tryz.ntmps71
 go_wp2_with fail
 refine (CJ.out _ HI.out.rd).mono ?_
 rintro _ V0 ⟨rfl, hb, hr⟩
 have HV0 := Lib.hid (HI.out.call hlt hb hr)
 clear hb hr
 go_upto_if 6 with fail
 go_cut [6] (fun _ wx => Rfi w b hll (q || hbb) hk 0 hm hw 7200 wx)
 case first =>
  rcases hcs with ⟨n1, n2, he⟩ | ⟨n1, n2, n3, n4, he⟩ | ⟨n1, n2, n3, n4, he⟩
  · have he' := he.out
    injection he' with e1 e2 e3 e4 e5
    subst e1 e2 e3 e4 e5
    rw [n2] at HV0
    rw [n1]
    obtain ⟨⟨d0, d1, d2, d3, d4⟩, g0, g1, g2, g3, g4⟩ := HV0.out.row
    clear n1 n2
    go_wp2_with fail
    go_meet
    rw [Bool.or_false]
    exact HV0.out.set hlt 0 _ 1 0 0 0 7200 rfl
  · rw [n2] at HV0
    rw [n1]
    rw [n3, n4] at CM
    have k1 : (l.drop 1).length ≤ l.length := by rw [List.length_drop]; omega
    obtain ⟨l1, hl1⟩ : ∃ l1, l.drop 1 = l1 := ⟨_, rfl⟩
    rw [hl1] at CM he k1
    have k2 := nuR_le l1
    have k3 := nextR_le 46 (nuR l1)
    have CN := Lib.hid (fun q w h => rf_number b l1 (by omega) q w h)
    have CW := Lib.hid (fun q w h => rf_want 46 b (nuR l1) (by omega) q w h)
    obtain ⟨l3, hl3⟩ : ∃ l3, nextR 46 (nuR l1) = l3 := ⟨_, rfl⟩
    rw [hl3] at CW he k3
    have CN2 := Lib.hid (fun q w h => rf_number b l3 (by omega) q w h)
    have CW2 := Lib.hid (fun q w h => rf_want 46 b (nuR l3) (by have := nuR_le l3; omega) q w h)
    unfold RfPost at CN CW CN2 CW2
    have he' := he.out
    injection he' with e1 e2 e3 e4 e5
    subst e1 e2 e3 e4 e5
    obtain ⟨v1, hv1⟩ : ∃ v, rfF.v l1 = v := ⟨_, rfl⟩
    obtain ⟨v2, hv2⟩ : ∃ v, rfF.v l3 = v := ⟨_, rfl⟩
    rw [hv1] at CN
    rw [hv2] at CN2
    have HV1 := Lib.hid hv1
    have HV2 := Lib.hid hv2
    clear n1 n2 n3 n4 hl1 hl3 hv1 hv2
    go_wp2_with fail
    refine (CM.out _ HV0.out.rd).mono ?_
    rintro _ V2 ⟨rfl, hb, hr⟩
    have HB := Lib.hid (HV0.out.call hlt hb hr)
    obtain ⟨⟨d0, d1, d2, d3, d4⟩, g0, g1, g2, g3, g4⟩ := HB.out.row
    have HBS := Lib.hid (HB.out.set hlt 0 (.int .i64 3) 3 0 0 0 7200 rfl)
    clear hb hr
    go_wp2_with fail
    refine (CN.out q _ HBS.out.rd).mono ?_
    rintro _ V3 ⟨rfl, hb, hr⟩
    have HC := Lib.hid (HBS.out.call hlt hb hr)
    clear d0 d1 d2 d3 d4 g0 g1 g2 g3 g4
    obtain ⟨⟨d0, d1, d2, d3, d4⟩, g0, g1, g2, g3, g4⟩ := HC.out.row
    have HC2 := Lib.hid (HC.out.set hlt 2 (.int .i64 v1) 3 0 v1 0 7200 rfl)
    clear hb hr
    go_wp2_with fail
    refine (CW.out _ _ HC2.out.rd).mono ?_
    rintro _ V4 ⟨_, rfl, hb, hr⟩
    have HD := Lib.hid (HC2.out.call hlt hb hr)
    clear hb hr d0 d1 d2 d3 d4 g0 g1 g2 g3 g4
    go_wp2_with fail
    refine (CN2.out _ _ HD.out.rd).mono ?_
    rintro _ V5 ⟨rfl, hb, hr⟩
    have HF := Lib.hid (HD.out.call hlt hb hr)
    obtain ⟨⟨d0, d1, d2, d3, d4⟩, g0, g1, g2, g3, g4⟩ := HF.out.row
    have HF2 := Lib.hid (HF.out.set hlt 3 (.int .i64 v2) 3 0 v1 v2 7200 rfl)
    clear hb hr
    go_wp2_with fail
    refine (CW2.out _ _ HF2.out.rd).mono ?_
    rintro _ V6 ⟨_, rfl, hb, hr⟩
    have HG := Lib.hid (HF2.out.call hlt hb hr)
    clear hb hr d0 d1 d2 d3 d4 g0 g1 g2 g3 g4
    go_wp2_with fail
    go_meet
    rw [HV1.out, HV2.out, show (q || (rfF.b l1 || !nextB 46 (nuR l1) || rfF.b l3 || !nextB 46 (nuR l3))) = (q || rfF.b l1 || !nextB 46 (nuR l1) || rfF.b l3 || !nextB 46 (nuR l3)) by simp only [Bool.or_assoc]]
    exact HG.out
  · have he' := he.out
    injection he' with e1 e2 e3 e4 e5
    subst e1 e2 e3 e4 e5
    rw [n2] at HV0
    rw [n1]
    rw [n3, n4] at CM
    clear n1 n2 n3 n4
    go_wp2_with fail
    refine (CM.out _ HV0.out.rd).mono ?_
    rintro _ V2 ⟨rfl, hb, hr⟩
    have HB := Lib.hid (HV0.out.call hlt hb hr)
    clear hb hr
    go_wp2_with fail
    go_meet
    rw [Bool.or_false]
    exact HB.out
 case rest =>
  have HA := Lib.hid hcut
  have hz : hll.length ≤ 1000000 := Nat.le_trans HDL.out hl
  have hz2 := nuR_le hll
  have CN := Lib.hid (fun q w h => rf_number b hll hz q w h)
  have CS := Lib.hid (fun q w h => rf_next 47 b (nuR hll) (by omega) q w h)
  have CX := Lib.hid (fun q w h => rf_seconds b ((nuR hll).drop 1) (by rw [List.length_drop]; omega) q w h)
  unfold RfPost at CN CS CX
  unfold timeG at HDT
  obtain ⟨v, hv⟩ : ∃ v, rfF.v hll = v := ⟨_, rfl⟩
  obtain ⟨bv, hbv⟩ : ∃ v, rfF.b hll = v := ⟨_, rfl⟩
  rw [hv, hbv] at CN HDT
  obtain ⟨r, hr0⟩ : ∃ r, nuR hll = r := ⟨_, rfl⟩
  rw [hr0] at CN CS CX HDT
  have hn : (nextB 47 r = true ∧ nextR 47 r = r.drop 1) ∨ (nextB 47 r = false ∧ nextR 47 r = r) := by
   unfold nextR
   cases h : nextB 47 r
   · right; exact ⟨rfl, rfl⟩
   · left; exact ⟨rfl, rfl⟩
  clear hcut hcs hv hbv hr0 CJ CM
  go_wp2_with fail
  refine (CN.out _ _ HA.out.rd).mono ?_
  rintro _ V ⟨rfl, hb, hr⟩
  have HB := Lib.hid (HA.out.call hlt hb hr)
  obtain ⟨⟨d0, d1, d2, d3, d4⟩, g0, g1, g2, g3, g4⟩ := HB.out.row
  have HB2 := Lib.hid (HB.out.set hlt 1 (.int .i64 v) hk v hm hw 7200 rfl)
  clear hb hr
  go_wp2_with fail
  refine (CS.out _ _ HB2.out.rd).mono ?_
  rintro _ V2 ⟨rfl, hb, hr⟩
  have HC := Lib.hid (HB2.out.call hlt hb hr)
  clear hb hr d0 d1 d2 d3 d4 g0 g1 g2 g3 g4
  rcases hn with ⟨n1, n2⟩ | ⟨n1, n2⟩
  · rw [n1, if_pos rfl] at HDT
    rw [n2] at HC
    rw [n1]
    clear n1 n2
    go_wp2_with fail
    refine (CX.out _ _ HC.out.rd).mono ?_
    rintro _ V3 ⟨rfl, hb, hr⟩
    have HF := Lib.hid (HC.out.call hlt hb hr)
    clear hb hr
    obtain ⟨sv, hsv⟩ : ∃ s, scV (r.drop 1) = s := ⟨_, rfl⟩
    rw [hsv] at HDT ⊢
    obtain ⟨⟨d0, d1, d2, d3, d4⟩, g0, g1, g2, g3, g4⟩ := HF.out.row
    obtain ⟨⟨r0, r1, r2, r3, r4⟩, f0, f1, f2, f3, f4⟩ := HF.out.rrow
    clear hsv
    go_wp2_with fail
    refine bodyPost_ret (v := .agg #[.int .i64 hk, .int .i64 v, .int .i64 hm, .int .i64 hw, .int .i64 sv]) (by simp [results, Tryz.results71, go_sem, r0, r1, r2, r3, r4]) rfl ?_
    have hf := ((((((⟨HF.out.but, HF.out.rd⟩ : RfB w b _ _ V3).set hlt (w.heap.size + 1) 4 (by omega) (.int .i64 sv)).set hlt w.heap.size 0 (Nat.le_refl _) (.int .i64 hk)).set hlt w.heap.size 1 (Nat.le_refl _) (.int .i64 v)).set hlt w.heap.size 2 (Nat.le_refl _) (.int .i64 hm)).set hlt w.heap.size 3 (Nat.le_refl _) (.int .i64 hw)).set hlt w.heap.size 4 (Nat.le_refl _) (.int .i64 sv)
    refine ⟨by rw [HDT.out]; rfl, hf.but, ?_⟩
    rw [HDT.out]
    dsimp only
    rw [show (q || (hbb || bv || scB (r.drop 1))) = (q || hbb || bv || scB (r.drop 1)) by simp only [Bool.or_assoc]]
    exact hf.rd
  · rw [n1, if_neg (by decide)] at HDT
    rw [n2] at HC
    rw [n1]
    obtain ⟨⟨d0, d1, d2, d3, d4⟩, g0, g1, g2, g3, g4⟩ := HC.out.row
    obtain ⟨⟨r0, r1, r2, r3, r4⟩, f0, f1, f2, f3, f4⟩ := HC.out.rrow
    clear n1 n2
    go_wp2_with fail
    refine bodyPost_ret (v := .agg #[.int .i64 hk, .int .i64 v, .int .i64 hm, .int .i64 hw, .int .i64 7200]) (by simp [results, Tryz.results71, go_sem, r0, r1, r2, r3, r4]) rfl ?_
    have hf := (((((⟨HC.out.but, HC.out.rd⟩ : RfB w b _ _ V2).set hlt w.heap.size 0 (Nat.le_refl _) (.int .i64 hk)).set hlt w.heap.size 1 (Nat.le_refl _) (.int .i64 v)).set hlt w.heap.size 2 (Nat.le_refl _) (.int .i64 hm)).set hlt w.heap.size 3 (Nat.le_refl _) (.int .i64 hw)).set hlt w.heap.size 4 (Nat.le_refl _) (.int .i64 7200)
    refine ⟨by rw [HDT.out]; rfl, hf.but, ?_⟩
    rw [HDT.out]
    dsimp only
    rw [show (q || (hbb || bv)) = (q || hbb || bv) by simp only [Bool.or_assoc]]
    exact hf.rd
end Go.Proofs.YtkpmmabdpeobaaaGreatDoor.Px
